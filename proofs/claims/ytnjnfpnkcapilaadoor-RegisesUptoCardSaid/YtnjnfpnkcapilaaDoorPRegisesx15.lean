-- Made by wip/pr.py out of the translation (a turned copy of the kit's print; contracts by hand where said).
import Derived.Test.YtnjnfpnkcapilaaDoorPRegisesx0
import Derived.Test.YtnjnfpnkcapilaaDoorPRegisesx4
import Derived.Test.YtnjnfpnkcapilaaDoorPRegisesx7
import Derived.Test.YtnjnfpnkcapilaaDoorPRegisesx9
import Derived.Test.YtnjnfpnkcapilaaDoorPRegisesx12
import Derived.Test.YtnjnfpnkcapilaaDoorPRegisesx14
namespace Go.Proofs.YtnjnfpnkcapilaaDoor.PRegises
open Go.RowKit Go.Proofs.YtnjnfpnkcapilaaDoorW.PrintWords Go.Proofs.YtnjnfpnkcapilaaDoorW.PrintLast Go.Proofs.YtnjnfpnkcapilaaDoorW.PrintMore
-- shrunk
attribute [local go_sem] max2_int min2_int max_two min_two max_three min_three max_four min_four   -- for this text's walks alone
set_option linter.unusedVariables false
set_option linter.unusedSimpArgs false

/-! ### pinfoldlaw16_awake: function 36 -/
def pinfoldlaw16_awake.f  : Option (Bool) := (pinfoldlaw16_given.f).bind fun bt208 => ((some (([(⟨10, 2, (⟨#[97]⟩ : ByteArray), 9, (⟨#[112, 99]⟩ : ByteArray), true⟩ : S62)] : List (S62)) : List (S62))).bind fun y222 => ((regis_Free.f bt208.1 bt208.2.1 bt208.2.2.1 bt208.2.2.2.1 bt208.2.2.2.2.1 bt208.2.2.2.2.2.1 bt208.2.2.2.2.2.2 y222 0 (⟨#[98]⟩ : ByteArray) (⟨#[112, 99, 46, 108, 97, 110]⟩ : ByteArray)).bind fun bt225 => ((regis_Free.f bt208.1 bt208.2.1 bt208.2.2.1 bt208.2.2.2.1 bt208.2.2.2.2.1 bt208.2.2.2.2.2.1 bt208.2.2.2.2.2.2 y222 0 (⟨#[97]⟩ : ByteArray) (⟨#[112, 99]⟩ : ByteArray)).bind fun bt227 => ((regis_Free.f bt208.1 bt208.2.1 bt208.2.2.1 bt208.2.2.2.1 bt208.2.2.2.2.1 bt208.2.2.2.2.2.1 bt208.2.2.2.2.2.2 y222 9 (⟨#[98]⟩ : ByteArray) (⟨#[112, 99]⟩ : ByteArray)).bind fun bt229 => ((regis_Free.f bt208.1 bt208.2.1 bt208.2.2.1 bt208.2.2.2.1 bt208.2.2.2.2.1 bt208.2.2.2.2.2.1 bt208.2.2.2.2.2.2 ([] : List (S62)) 0 (⟨#[98]⟩ : ByteArray) (⟨#[119, 119, 119]⟩ : ByteArray)).bind fun bt231 => ((regis_Free.f bt208.1 bt208.2.1 bt208.2.2.1 bt208.2.2.2.1 bt208.2.2.2.2.1 bt208.2.2.2.2.2.1 bt208.2.2.2.2.2.2 y222 0 (⟨#[98]⟩ : ByteArray) (⟨#[65]⟩ : ByteArray)).bind fun bt233 => ((regis_Full_c.f bt208.1 bt208.2.1 bt208.2.2.1 bt208.2.2.2.1 bt208.2.2.2.2.1 bt208.2.2.2.2.2.1 bt208.2.2.2.2.2.2 (⟨#[112, 99]⟩ : ByteArray)).bind fun t235 => (if t235.toList = ([112, 99, 46, 108, 97, 110] : List UInt8) then ((regis_Full_c.f bt208.1 bt208.2.1 bt208.2.2.1 bt208.2.2.2.1 bt208.2.2.2.2.1 bt208.2.2.2.2.2.1 bt208.2.2.2.2.2.2 (⟨#[120, 46, 112, 99, 46, 108, 97, 110]⟩ : ByteArray)).bind fun t236 => (if t236.toList = ([120, 46, 112, 99, 46, 108, 97, 110] : List UInt8) then ((regis_Full_c.f bt208.1 bt208.2.1 bt208.2.2.1 bt208.2.2.2.1 bt208.2.2.2.2.1 bt208.2.2.2.2.2.1 bt208.2.2.2.2.2.2 (⟨#[97, 46, 98]⟩ : ByteArray)).bind fun t237 => (if t237.toList = ([] : List UInt8) then ((regis_Full_c.f bt208.1 bt208.2.1 bt208.2.2.1 bt208.2.2.2.1 bt208.2.2.2.2.1 bt208.2.2.2.2.2.1 bt208.2.2.2.2.2.2 (⟨#[]⟩ : ByteArray)).bind fun t238 => (if t238.toList = ([] : List UInt8) then (if bt225.1 = true then (none) else ((pinfoldlaw0_Num.f bt225.2).bind fun t239 => (if t239 = 0 then (if bt227.1 = true then ((pinfoldlaw0_Num.f bt227.2).bind fun t240 => (if t240 = 0 then (if bt229.1 = true then ((pinfoldlaw0_Num.f bt229.2).bind fun t241 => (if t241 = 0 then (if bt231.1 = true then (none) else ((pinfoldlaw0_Num.f bt231.2).bind fun t242 => (if t242 = 0 then ((pinfoldlaw0_Num.f bt233.2).bind fun t243 => (some (t243 == 1600))) else (none)))) else (none))) else (none)) else (none))) else (none)) else (none)))) else (none))) else (none))) else (none))) else (none)))))))))
set_option maxHeartbeats 8000000 in
set_option maxRecDepth 100000 in
theorem pinfoldlaw16_awake.calls  (r : Bool) (w : World) (h : pinfoldlaw16_awake.f  = some r) :
  Calls Tryd.prog 36 #[] w fun e w' => e = .returned (.bool r) ∧ Below w.heap.size w w' := by
 have hu26 := Tryd.underlying26
 have hu62 := Tryd.underlying62
 have HB := am_ (Below.refl w.heap.size w)
 have H : ((pinfoldlaw16_given.f).bind fun bt208 => ((some (([(⟨10, 2, (⟨#[97]⟩ : ByteArray), 9, (⟨#[112, 99]⟩ : ByteArray), true⟩ : S62)] : List (S62)) : List (S62))).bind fun y222 => ((regis_Free.f bt208.1 bt208.2.1 bt208.2.2.1 bt208.2.2.2.1 bt208.2.2.2.2.1 bt208.2.2.2.2.2.1 bt208.2.2.2.2.2.2 y222 0 (⟨#[98]⟩ : ByteArray) (⟨#[112, 99, 46, 108, 97, 110]⟩ : ByteArray)).bind fun bt225 => ((regis_Free.f bt208.1 bt208.2.1 bt208.2.2.1 bt208.2.2.2.1 bt208.2.2.2.2.1 bt208.2.2.2.2.2.1 bt208.2.2.2.2.2.2 y222 0 (⟨#[97]⟩ : ByteArray) (⟨#[112, 99]⟩ : ByteArray)).bind fun bt227 => ((regis_Free.f bt208.1 bt208.2.1 bt208.2.2.1 bt208.2.2.2.1 bt208.2.2.2.2.1 bt208.2.2.2.2.2.1 bt208.2.2.2.2.2.2 y222 9 (⟨#[98]⟩ : ByteArray) (⟨#[112, 99]⟩ : ByteArray)).bind fun bt229 => ((regis_Free.f bt208.1 bt208.2.1 bt208.2.2.1 bt208.2.2.2.1 bt208.2.2.2.2.1 bt208.2.2.2.2.2.1 bt208.2.2.2.2.2.2 ([] : List (S62)) 0 (⟨#[98]⟩ : ByteArray) (⟨#[119, 119, 119]⟩ : ByteArray)).bind fun bt231 => ((regis_Free.f bt208.1 bt208.2.1 bt208.2.2.1 bt208.2.2.2.1 bt208.2.2.2.2.1 bt208.2.2.2.2.2.1 bt208.2.2.2.2.2.2 y222 0 (⟨#[98]⟩ : ByteArray) (⟨#[65]⟩ : ByteArray)).bind fun bt233 => ((regis_Full_c.f bt208.1 bt208.2.1 bt208.2.2.1 bt208.2.2.2.1 bt208.2.2.2.2.1 bt208.2.2.2.2.2.1 bt208.2.2.2.2.2.2 (⟨#[112, 99]⟩ : ByteArray)).bind fun t235 => (if t235.toList = ([112, 99, 46, 108, 97, 110] : List UInt8) then ((regis_Full_c.f bt208.1 bt208.2.1 bt208.2.2.1 bt208.2.2.2.1 bt208.2.2.2.2.1 bt208.2.2.2.2.2.1 bt208.2.2.2.2.2.2 (⟨#[120, 46, 112, 99, 46, 108, 97, 110]⟩ : ByteArray)).bind fun t236 => (if t236.toList = ([120, 46, 112, 99, 46, 108, 97, 110] : List UInt8) then ((regis_Full_c.f bt208.1 bt208.2.1 bt208.2.2.1 bt208.2.2.2.1 bt208.2.2.2.2.1 bt208.2.2.2.2.2.1 bt208.2.2.2.2.2.2 (⟨#[97, 46, 98]⟩ : ByteArray)).bind fun t237 => (if t237.toList = ([] : List UInt8) then ((regis_Full_c.f bt208.1 bt208.2.1 bt208.2.2.1 bt208.2.2.2.1 bt208.2.2.2.2.1 bt208.2.2.2.2.2.1 bt208.2.2.2.2.2.2 (⟨#[]⟩ : ByteArray)).bind fun t238 => (if t238.toList = ([] : List UInt8) then (if bt225.1 = true then (none) else ((pinfoldlaw0_Num.f bt225.2).bind fun t239 => (if t239 = 0 then (if bt227.1 = true then ((pinfoldlaw0_Num.f bt227.2).bind fun t240 => (if t240 = 0 then (if bt229.1 = true then ((pinfoldlaw0_Num.f bt229.2).bind fun t241 => (if t241 = 0 then (if bt231.1 = true then (none) else ((pinfoldlaw0_Num.f bt231.2).bind fun t242 => (if t242 = 0 then ((pinfoldlaw0_Num.f bt233.2).bind fun t243 => (some (t243 == 1600))) else (none)))) else (none))) else (none)) else (none))) else (none)) else (none)))) else (none))) else (none))) else (none))) else (none)))))))))) = some r := h
 clear h
 replace H := e4_ H
 obtain ⟨⟨t208, t209, t210, t213, t216, t217, t218⟩, A10, H⟩ := H
 replace H : ((some (([(⟨10, 2, (⟨#[97]⟩ : ByteArray), 9, (⟨#[112, 99]⟩ : ByteArray), true⟩ : S62)] : List (S62)) : List (S62))).bind fun y222 => ((regis_Free.f t208 t209 t210 t213 t216 t217 t218 y222 0 (⟨#[98]⟩ : ByteArray) (⟨#[112, 99, 46, 108, 97, 110]⟩ : ByteArray)).bind fun bt225 => ((regis_Free.f t208 t209 t210 t213 t216 t217 t218 y222 0 (⟨#[97]⟩ : ByteArray) (⟨#[112, 99]⟩ : ByteArray)).bind fun bt227 => ((regis_Free.f t208 t209 t210 t213 t216 t217 t218 y222 9 (⟨#[98]⟩ : ByteArray) (⟨#[112, 99]⟩ : ByteArray)).bind fun bt229 => ((regis_Free.f t208 t209 t210 t213 t216 t217 t218 ([] : List (S62)) 0 (⟨#[98]⟩ : ByteArray) (⟨#[119, 119, 119]⟩ : ByteArray)).bind fun bt231 => ((regis_Free.f t208 t209 t210 t213 t216 t217 t218 y222 0 (⟨#[98]⟩ : ByteArray) (⟨#[65]⟩ : ByteArray)).bind fun bt233 => ((regis_Full_c.f t208 t209 t210 t213 t216 t217 t218 (⟨#[112, 99]⟩ : ByteArray)).bind fun t235 => (if t235.toList = ([112, 99, 46, 108, 97, 110] : List UInt8) then ((regis_Full_c.f t208 t209 t210 t213 t216 t217 t218 (⟨#[120, 46, 112, 99, 46, 108, 97, 110]⟩ : ByteArray)).bind fun t236 => (if t236.toList = ([120, 46, 112, 99, 46, 108, 97, 110] : List UInt8) then ((regis_Full_c.f t208 t209 t210 t213 t216 t217 t218 (⟨#[97, 46, 98]⟩ : ByteArray)).bind fun t237 => (if t237.toList = ([] : List UInt8) then ((regis_Full_c.f t208 t209 t210 t213 t216 t217 t218 (⟨#[]⟩ : ByteArray)).bind fun t238 => (if t238.toList = ([] : List UInt8) then (if bt225.1 = true then (none) else ((pinfoldlaw0_Num.f bt225.2).bind fun t239 => (if t239 = 0 then (if bt227.1 = true then ((pinfoldlaw0_Num.f bt227.2).bind fun t240 => (if t240 = 0 then (if bt229.1 = true then ((pinfoldlaw0_Num.f bt229.2).bind fun t241 => (if t241 = 0 then (if bt231.1 = true then (none) else ((pinfoldlaw0_Num.f bt231.2).bind fun t242 => (if t242 = 0 then ((pinfoldlaw0_Num.f bt233.2).bind fun t243 => (some (t243 == 1600))) else (none)))) else (none))) else (none)) else (none))) else (none)) else (none)))) else (none))) else (none))) else (none))) else (none))))))))) = some r := H
 have A1 := am_ A10
 clear A10
 obtain ⟨y222, hy222⟩ : ∃ y_ : List (S62), y_ = (([(⟨10, 2, (⟨#[97]⟩ : ByteArray), 9, (⟨#[112, 99]⟩ : ByteArray), true⟩ : S62)] : List (S62))) := ⟨_, rfl⟩
 replace H : ((regis_Free.f t208 t209 t210 t213 t216 t217 t218 y222 0 (⟨#[98]⟩ : ByteArray) (⟨#[112, 99, 46, 108, 97, 110]⟩ : ByteArray)).bind fun bt225 => ((regis_Free.f t208 t209 t210 t213 t216 t217 t218 y222 0 (⟨#[97]⟩ : ByteArray) (⟨#[112, 99]⟩ : ByteArray)).bind fun bt227 => ((regis_Free.f t208 t209 t210 t213 t216 t217 t218 y222 9 (⟨#[98]⟩ : ByteArray) (⟨#[112, 99]⟩ : ByteArray)).bind fun bt229 => ((regis_Free.f t208 t209 t210 t213 t216 t217 t218 ([] : List (S62)) 0 (⟨#[98]⟩ : ByteArray) (⟨#[119, 119, 119]⟩ : ByteArray)).bind fun bt231 => ((regis_Free.f t208 t209 t210 t213 t216 t217 t218 y222 0 (⟨#[98]⟩ : ByteArray) (⟨#[65]⟩ : ByteArray)).bind fun bt233 => ((regis_Full_c.f t208 t209 t210 t213 t216 t217 t218 (⟨#[112, 99]⟩ : ByteArray)).bind fun t235 => (if t235.toList = ([112, 99, 46, 108, 97, 110] : List UInt8) then ((regis_Full_c.f t208 t209 t210 t213 t216 t217 t218 (⟨#[120, 46, 112, 99, 46, 108, 97, 110]⟩ : ByteArray)).bind fun t236 => (if t236.toList = ([120, 46, 112, 99, 46, 108, 97, 110] : List UInt8) then ((regis_Full_c.f t208 t209 t210 t213 t216 t217 t218 (⟨#[97, 46, 98]⟩ : ByteArray)).bind fun t237 => (if t237.toList = ([] : List UInt8) then ((regis_Full_c.f t208 t209 t210 t213 t216 t217 t218 (⟨#[]⟩ : ByteArray)).bind fun t238 => (if t238.toList = ([] : List UInt8) then (if bt225.1 = true then (none) else ((pinfoldlaw0_Num.f bt225.2).bind fun t239 => (if t239 = 0 then (if bt227.1 = true then ((pinfoldlaw0_Num.f bt227.2).bind fun t240 => (if t240 = 0 then (if bt229.1 = true then ((pinfoldlaw0_Num.f bt229.2).bind fun t241 => (if t241 = 0 then (if bt231.1 = true then (none) else ((pinfoldlaw0_Num.f bt231.2).bind fun t242 => (if t242 = 0 then ((pinfoldlaw0_Num.f bt233.2).bind fun t243 => (some (t243 == 1600))) else (none)))) else (none))) else (none)) else (none))) else (none)) else (none)))) else (none))) else (none))) else (none))) else (none)))))))) = some r := by first | (rw [hy222]; with_reducible exact H) | (have H2_ := (Option.bind_some _ _).symm.trans H; rw [hy222]; with_reducible exact H2_) | (have H2_ := (Option.bind_some _ _).symm.trans H; with_reducible exact H2_) | with_reducible exact H | (rw [hy222]; exact H) | exact H
 have Ny222 := am_ hy222
 clear hy222
 replace H := e4_ H
 obtain ⟨⟨t225, t226⟩, A20, H⟩ := H
 replace H : ((regis_Free.f t208 t209 t210 t213 t216 t217 t218 y222 0 (⟨#[97]⟩ : ByteArray) (⟨#[112, 99]⟩ : ByteArray)).bind fun bt227 => ((regis_Free.f t208 t209 t210 t213 t216 t217 t218 y222 9 (⟨#[98]⟩ : ByteArray) (⟨#[112, 99]⟩ : ByteArray)).bind fun bt229 => ((regis_Free.f t208 t209 t210 t213 t216 t217 t218 ([] : List (S62)) 0 (⟨#[98]⟩ : ByteArray) (⟨#[119, 119, 119]⟩ : ByteArray)).bind fun bt231 => ((regis_Free.f t208 t209 t210 t213 t216 t217 t218 y222 0 (⟨#[98]⟩ : ByteArray) (⟨#[65]⟩ : ByteArray)).bind fun bt233 => ((regis_Full_c.f t208 t209 t210 t213 t216 t217 t218 (⟨#[112, 99]⟩ : ByteArray)).bind fun t235 => (if t235.toList = ([112, 99, 46, 108, 97, 110] : List UInt8) then ((regis_Full_c.f t208 t209 t210 t213 t216 t217 t218 (⟨#[120, 46, 112, 99, 46, 108, 97, 110]⟩ : ByteArray)).bind fun t236 => (if t236.toList = ([120, 46, 112, 99, 46, 108, 97, 110] : List UInt8) then ((regis_Full_c.f t208 t209 t210 t213 t216 t217 t218 (⟨#[97, 46, 98]⟩ : ByteArray)).bind fun t237 => (if t237.toList = ([] : List UInt8) then ((regis_Full_c.f t208 t209 t210 t213 t216 t217 t218 (⟨#[]⟩ : ByteArray)).bind fun t238 => (if t238.toList = ([] : List UInt8) then (if t225 = true then (none) else ((pinfoldlaw0_Num.f t226).bind fun t239 => (if t239 = 0 then (if bt227.1 = true then ((pinfoldlaw0_Num.f bt227.2).bind fun t240 => (if t240 = 0 then (if bt229.1 = true then ((pinfoldlaw0_Num.f bt229.2).bind fun t241 => (if t241 = 0 then (if bt231.1 = true then (none) else ((pinfoldlaw0_Num.f bt231.2).bind fun t242 => (if t242 = 0 then ((pinfoldlaw0_Num.f bt233.2).bind fun t243 => (some (t243 == 1600))) else (none)))) else (none))) else (none)) else (none))) else (none)) else (none)))) else (none))) else (none))) else (none))) else (none))))))) = some r := H
 have A2 := am_ A20
 clear A20
 replace H := e4_ H
 obtain ⟨⟨t227, t228⟩, A30, H⟩ := H
 replace H : ((regis_Free.f t208 t209 t210 t213 t216 t217 t218 y222 9 (⟨#[98]⟩ : ByteArray) (⟨#[112, 99]⟩ : ByteArray)).bind fun bt229 => ((regis_Free.f t208 t209 t210 t213 t216 t217 t218 ([] : List (S62)) 0 (⟨#[98]⟩ : ByteArray) (⟨#[119, 119, 119]⟩ : ByteArray)).bind fun bt231 => ((regis_Free.f t208 t209 t210 t213 t216 t217 t218 y222 0 (⟨#[98]⟩ : ByteArray) (⟨#[65]⟩ : ByteArray)).bind fun bt233 => ((regis_Full_c.f t208 t209 t210 t213 t216 t217 t218 (⟨#[112, 99]⟩ : ByteArray)).bind fun t235 => (if t235.toList = ([112, 99, 46, 108, 97, 110] : List UInt8) then ((regis_Full_c.f t208 t209 t210 t213 t216 t217 t218 (⟨#[120, 46, 112, 99, 46, 108, 97, 110]⟩ : ByteArray)).bind fun t236 => (if t236.toList = ([120, 46, 112, 99, 46, 108, 97, 110] : List UInt8) then ((regis_Full_c.f t208 t209 t210 t213 t216 t217 t218 (⟨#[97, 46, 98]⟩ : ByteArray)).bind fun t237 => (if t237.toList = ([] : List UInt8) then ((regis_Full_c.f t208 t209 t210 t213 t216 t217 t218 (⟨#[]⟩ : ByteArray)).bind fun t238 => (if t238.toList = ([] : List UInt8) then (if t225 = true then (none) else ((pinfoldlaw0_Num.f t226).bind fun t239 => (if t239 = 0 then (if t227 = true then ((pinfoldlaw0_Num.f t228).bind fun t240 => (if t240 = 0 then (if bt229.1 = true then ((pinfoldlaw0_Num.f bt229.2).bind fun t241 => (if t241 = 0 then (if bt231.1 = true then (none) else ((pinfoldlaw0_Num.f bt231.2).bind fun t242 => (if t242 = 0 then ((pinfoldlaw0_Num.f bt233.2).bind fun t243 => (some (t243 == 1600))) else (none)))) else (none))) else (none)) else (none))) else (none)) else (none)))) else (none))) else (none))) else (none))) else (none)))))) = some r := H
 have A3 := am_ A30
 clear A30
 replace H := e4_ H
 obtain ⟨⟨t229, t230⟩, A40, H⟩ := H
 replace H : ((regis_Free.f t208 t209 t210 t213 t216 t217 t218 ([] : List (S62)) 0 (⟨#[98]⟩ : ByteArray) (⟨#[119, 119, 119]⟩ : ByteArray)).bind fun bt231 => ((regis_Free.f t208 t209 t210 t213 t216 t217 t218 y222 0 (⟨#[98]⟩ : ByteArray) (⟨#[65]⟩ : ByteArray)).bind fun bt233 => ((regis_Full_c.f t208 t209 t210 t213 t216 t217 t218 (⟨#[112, 99]⟩ : ByteArray)).bind fun t235 => (if t235.toList = ([112, 99, 46, 108, 97, 110] : List UInt8) then ((regis_Full_c.f t208 t209 t210 t213 t216 t217 t218 (⟨#[120, 46, 112, 99, 46, 108, 97, 110]⟩ : ByteArray)).bind fun t236 => (if t236.toList = ([120, 46, 112, 99, 46, 108, 97, 110] : List UInt8) then ((regis_Full_c.f t208 t209 t210 t213 t216 t217 t218 (⟨#[97, 46, 98]⟩ : ByteArray)).bind fun t237 => (if t237.toList = ([] : List UInt8) then ((regis_Full_c.f t208 t209 t210 t213 t216 t217 t218 (⟨#[]⟩ : ByteArray)).bind fun t238 => (if t238.toList = ([] : List UInt8) then (if t225 = true then (none) else ((pinfoldlaw0_Num.f t226).bind fun t239 => (if t239 = 0 then (if t227 = true then ((pinfoldlaw0_Num.f t228).bind fun t240 => (if t240 = 0 then (if t229 = true then ((pinfoldlaw0_Num.f t230).bind fun t241 => (if t241 = 0 then (if bt231.1 = true then (none) else ((pinfoldlaw0_Num.f bt231.2).bind fun t242 => (if t242 = 0 then ((pinfoldlaw0_Num.f bt233.2).bind fun t243 => (some (t243 == 1600))) else (none)))) else (none))) else (none)) else (none))) else (none)) else (none)))) else (none))) else (none))) else (none))) else (none))))) = some r := H
 have A4 := am_ A40
 clear A40
 replace H := e4_ H
 obtain ⟨⟨t231, t232⟩, A50, H⟩ := H
 replace H : ((regis_Free.f t208 t209 t210 t213 t216 t217 t218 y222 0 (⟨#[98]⟩ : ByteArray) (⟨#[65]⟩ : ByteArray)).bind fun bt233 => ((regis_Full_c.f t208 t209 t210 t213 t216 t217 t218 (⟨#[112, 99]⟩ : ByteArray)).bind fun t235 => (if t235.toList = ([112, 99, 46, 108, 97, 110] : List UInt8) then ((regis_Full_c.f t208 t209 t210 t213 t216 t217 t218 (⟨#[120, 46, 112, 99, 46, 108, 97, 110]⟩ : ByteArray)).bind fun t236 => (if t236.toList = ([120, 46, 112, 99, 46, 108, 97, 110] : List UInt8) then ((regis_Full_c.f t208 t209 t210 t213 t216 t217 t218 (⟨#[97, 46, 98]⟩ : ByteArray)).bind fun t237 => (if t237.toList = ([] : List UInt8) then ((regis_Full_c.f t208 t209 t210 t213 t216 t217 t218 (⟨#[]⟩ : ByteArray)).bind fun t238 => (if t238.toList = ([] : List UInt8) then (if t225 = true then (none) else ((pinfoldlaw0_Num.f t226).bind fun t239 => (if t239 = 0 then (if t227 = true then ((pinfoldlaw0_Num.f t228).bind fun t240 => (if t240 = 0 then (if t229 = true then ((pinfoldlaw0_Num.f t230).bind fun t241 => (if t241 = 0 then (if t231 = true then (none) else ((pinfoldlaw0_Num.f t232).bind fun t242 => (if t242 = 0 then ((pinfoldlaw0_Num.f bt233.2).bind fun t243 => (some (t243 == 1600))) else (none)))) else (none))) else (none)) else (none))) else (none)) else (none)))) else (none))) else (none))) else (none))) else (none)))) = some r := H
 have A5 := am_ A50
 clear A50
 replace H := e4_ H
 obtain ⟨⟨t233, t234⟩, A60, H⟩ := H
 replace H : ((regis_Full_c.f t208 t209 t210 t213 t216 t217 t218 (⟨#[112, 99]⟩ : ByteArray)).bind fun t235 => (if t235.toList = ([112, 99, 46, 108, 97, 110] : List UInt8) then ((regis_Full_c.f t208 t209 t210 t213 t216 t217 t218 (⟨#[120, 46, 112, 99, 46, 108, 97, 110]⟩ : ByteArray)).bind fun t236 => (if t236.toList = ([120, 46, 112, 99, 46, 108, 97, 110] : List UInt8) then ((regis_Full_c.f t208 t209 t210 t213 t216 t217 t218 (⟨#[97, 46, 98]⟩ : ByteArray)).bind fun t237 => (if t237.toList = ([] : List UInt8) then ((regis_Full_c.f t208 t209 t210 t213 t216 t217 t218 (⟨#[]⟩ : ByteArray)).bind fun t238 => (if t238.toList = ([] : List UInt8) then (if t225 = true then (none) else ((pinfoldlaw0_Num.f t226).bind fun t239 => (if t239 = 0 then (if t227 = true then ((pinfoldlaw0_Num.f t228).bind fun t240 => (if t240 = 0 then (if t229 = true then ((pinfoldlaw0_Num.f t230).bind fun t241 => (if t241 = 0 then (if t231 = true then (none) else ((pinfoldlaw0_Num.f t232).bind fun t242 => (if t242 = 0 then ((pinfoldlaw0_Num.f t234).bind fun t243 => (some (t243 == 1600))) else (none)))) else (none))) else (none)) else (none))) else (none)) else (none)))) else (none))) else (none))) else (none))) else (none))) = some r := H
 have A6 := am_ A60
 clear A60
 replace H := e4_ H
 obtain ⟨t235, A70, H⟩ := H
 replace H : (if t235.toList = ([112, 99, 46, 108, 97, 110] : List UInt8) then ((regis_Full_c.f t208 t209 t210 t213 t216 t217 t218 (⟨#[120, 46, 112, 99, 46, 108, 97, 110]⟩ : ByteArray)).bind fun t236 => (if t236.toList = ([120, 46, 112, 99, 46, 108, 97, 110] : List UInt8) then ((regis_Full_c.f t208 t209 t210 t213 t216 t217 t218 (⟨#[97, 46, 98]⟩ : ByteArray)).bind fun t237 => (if t237.toList = ([] : List UInt8) then ((regis_Full_c.f t208 t209 t210 t213 t216 t217 t218 (⟨#[]⟩ : ByteArray)).bind fun t238 => (if t238.toList = ([] : List UInt8) then (if t225 = true then (none) else ((pinfoldlaw0_Num.f t226).bind fun t239 => (if t239 = 0 then (if t227 = true then ((pinfoldlaw0_Num.f t228).bind fun t240 => (if t240 = 0 then (if t229 = true then ((pinfoldlaw0_Num.f t230).bind fun t241 => (if t241 = 0 then (if t231 = true then (none) else ((pinfoldlaw0_Num.f t232).bind fun t242 => (if t242 = 0 then ((pinfoldlaw0_Num.f t234).bind fun t243 => (some (t243 == 1600))) else (none)))) else (none))) else (none)) else (none))) else (none)) else (none)))) else (none))) else (none))) else (none))) else (none)) = some r := H
 have A7 := am_ A70
 clear A70
 by_cases c8 : t235.toList = ([112, 99, 46, 108, 97, 110] : List UInt8)
 rotate_left
 ·rw [if_neg c8] at H
  exact absurd H (by simp)
 rw [if_pos c8] at H
 have c8b0 : (t235.toList == ([112, 99, 46, 108, 97, 110] : List UInt8)) = true := beq_iff_eq.mpr c8
 have c8b1 : (t235.toList != ([112, 99, 46, 108, 97, 110] : List UInt8)) = false := e1_ c8
 clear c8
 replace H := e4_ H
 obtain ⟨t236, A90, H⟩ := H
 replace H : (if t236.toList = ([120, 46, 112, 99, 46, 108, 97, 110] : List UInt8) then ((regis_Full_c.f t208 t209 t210 t213 t216 t217 t218 (⟨#[97, 46, 98]⟩ : ByteArray)).bind fun t237 => (if t237.toList = ([] : List UInt8) then ((regis_Full_c.f t208 t209 t210 t213 t216 t217 t218 (⟨#[]⟩ : ByteArray)).bind fun t238 => (if t238.toList = ([] : List UInt8) then (if t225 = true then (none) else ((pinfoldlaw0_Num.f t226).bind fun t239 => (if t239 = 0 then (if t227 = true then ((pinfoldlaw0_Num.f t228).bind fun t240 => (if t240 = 0 then (if t229 = true then ((pinfoldlaw0_Num.f t230).bind fun t241 => (if t241 = 0 then (if t231 = true then (none) else ((pinfoldlaw0_Num.f t232).bind fun t242 => (if t242 = 0 then ((pinfoldlaw0_Num.f t234).bind fun t243 => (some (t243 == 1600))) else (none)))) else (none))) else (none)) else (none))) else (none)) else (none)))) else (none))) else (none))) else (none)) = some r := H
 have A9 := am_ A90
 clear A90
 by_cases c10 : t236.toList = ([120, 46, 112, 99, 46, 108, 97, 110] : List UInt8)
 rotate_left
 ·rw [if_neg c10] at H
  exact absurd H (by simp)
 rw [if_pos c10] at H
 have c10b0 : (t236.toList == ([120, 46, 112, 99, 46, 108, 97, 110] : List UInt8)) = true := beq_iff_eq.mpr c10
 have c10b1 : (t236.toList != ([120, 46, 112, 99, 46, 108, 97, 110] : List UInt8)) = false := e1_ c10
 clear c10
 replace H := e4_ H
 obtain ⟨t237, A110, H⟩ := H
 replace H : (if t237.toList = ([] : List UInt8) then ((regis_Full_c.f t208 t209 t210 t213 t216 t217 t218 (⟨#[]⟩ : ByteArray)).bind fun t238 => (if t238.toList = ([] : List UInt8) then (if t225 = true then (none) else ((pinfoldlaw0_Num.f t226).bind fun t239 => (if t239 = 0 then (if t227 = true then ((pinfoldlaw0_Num.f t228).bind fun t240 => (if t240 = 0 then (if t229 = true then ((pinfoldlaw0_Num.f t230).bind fun t241 => (if t241 = 0 then (if t231 = true then (none) else ((pinfoldlaw0_Num.f t232).bind fun t242 => (if t242 = 0 then ((pinfoldlaw0_Num.f t234).bind fun t243 => (some (t243 == 1600))) else (none)))) else (none))) else (none)) else (none))) else (none)) else (none)))) else (none))) else (none)) = some r := H
 have A11 := am_ A110
 clear A110
 by_cases c12 : t237.toList = ([] : List UInt8)
 rotate_left
 ·rw [if_neg c12] at H
  exact absurd H (by simp)
 rw [if_pos c12] at H
 have c12b0 : (t237.toList == ([] : List UInt8)) = true := beq_iff_eq.mpr c12
 have c12b1 : (t237.toList != ([] : List UInt8)) = false := e1_ c12
 clear c12
 replace H := e4_ H
 obtain ⟨t238, A130, H⟩ := H
 replace H : (if t238.toList = ([] : List UInt8) then (if t225 = true then (none) else ((pinfoldlaw0_Num.f t226).bind fun t239 => (if t239 = 0 then (if t227 = true then ((pinfoldlaw0_Num.f t228).bind fun t240 => (if t240 = 0 then (if t229 = true then ((pinfoldlaw0_Num.f t230).bind fun t241 => (if t241 = 0 then (if t231 = true then (none) else ((pinfoldlaw0_Num.f t232).bind fun t242 => (if t242 = 0 then ((pinfoldlaw0_Num.f t234).bind fun t243 => (some (t243 == 1600))) else (none)))) else (none))) else (none)) else (none))) else (none)) else (none)))) else (none)) = some r := H
 have A13 := am_ A130
 clear A130
 by_cases c14 : t238.toList = ([] : List UInt8)
 rotate_left
 ·rw [if_neg c14] at H
  exact absurd H (by simp)
 rw [if_pos c14] at H
 have c14b0 : (t238.toList == ([] : List UInt8)) = true := beq_iff_eq.mpr c14
 have c14b1 : (t238.toList != ([] : List UInt8)) = false := e1_ c14
 clear c14
 by_cases c15 : t225 = true
 ·subst c15
  have H1 : (none) = some r := by rw [if_pos rfl] at H; exact H
  clear H
  have H := H1
  clear H1
  exact absurd H (by simp)
 replace c15 := e3_ c15
 subst c15
 have H1 : ((pinfoldlaw0_Num.f t226).bind fun t239 => (if t239 = 0 then (if t227 = true then ((pinfoldlaw0_Num.f t228).bind fun t240 => (if t240 = 0 then (if t229 = true then ((pinfoldlaw0_Num.f t230).bind fun t241 => (if t241 = 0 then (if t231 = true then (none) else ((pinfoldlaw0_Num.f t232).bind fun t242 => (if t242 = 0 then ((pinfoldlaw0_Num.f t234).bind fun t243 => (some (t243 == 1600))) else (none)))) else (none))) else (none)) else (none))) else (none)) else (none))) = some r := by rw [if_neg (show ¬ (false = true) by decide)] at H; exact H
 clear H
 have H := H1
 clear H1
 replace H := e4_ H
 obtain ⟨t239, A160, H⟩ := H
 replace H : (if t239 = 0 then (if t227 = true then ((pinfoldlaw0_Num.f t228).bind fun t240 => (if t240 = 0 then (if t229 = true then ((pinfoldlaw0_Num.f t230).bind fun t241 => (if t241 = 0 then (if t231 = true then (none) else ((pinfoldlaw0_Num.f t232).bind fun t242 => (if t242 = 0 then ((pinfoldlaw0_Num.f t234).bind fun t243 => (some (t243 == 1600))) else (none)))) else (none))) else (none)) else (none))) else (none)) else (none)) = some r := H
 have A16 := am_ A160
 clear A160
 by_cases c17 : t239 = 0
 rotate_left
 ·rw [if_neg c17] at H
  exact absurd H (by simp)
 rw [if_pos c17] at H
 have c17b0 : (t239 == 0) = true := beq_iff_eq.mpr c17
 have c17b1 : (t239 != 0) = false := e1_ c17
 clear c17
 by_cases c18 : t227 = true
 ·subst c18
  have H1 : ((pinfoldlaw0_Num.f t228).bind fun t240 => (if t240 = 0 then (if t229 = true then ((pinfoldlaw0_Num.f t230).bind fun t241 => (if t241 = 0 then (if t231 = true then (none) else ((pinfoldlaw0_Num.f t232).bind fun t242 => (if t242 = 0 then ((pinfoldlaw0_Num.f t234).bind fun t243 => (some (t243 == 1600))) else (none)))) else (none))) else (none)) else (none))) = some r := by rw [if_pos rfl] at H; exact H
  clear H
  have H := H1
  clear H1
  replace H := e4_ H
  obtain ⟨t240, A190, H⟩ := H
  replace H : (if t240 = 0 then (if t229 = true then ((pinfoldlaw0_Num.f t230).bind fun t241 => (if t241 = 0 then (if t231 = true then (none) else ((pinfoldlaw0_Num.f t232).bind fun t242 => (if t242 = 0 then ((pinfoldlaw0_Num.f t234).bind fun t243 => (some (t243 == 1600))) else (none)))) else (none))) else (none)) else (none)) = some r := H
  have A19 := am_ A190
  clear A190
  by_cases c20 : t240 = 0
  rotate_left
  ·rw [if_neg c20] at H
   exact absurd H (by simp)
  rw [if_pos c20] at H
  have c20b0 : (t240 == 0) = true := beq_iff_eq.mpr c20
  have c20b1 : (t240 != 0) = false := e1_ c20
  clear c20
  by_cases c21 : t229 = true
  ·subst c21
   have H1 : ((pinfoldlaw0_Num.f t230).bind fun t241 => (if t241 = 0 then (if t231 = true then (none) else ((pinfoldlaw0_Num.f t232).bind fun t242 => (if t242 = 0 then ((pinfoldlaw0_Num.f t234).bind fun t243 => (some (t243 == 1600))) else (none)))) else (none))) = some r := by rw [if_pos rfl] at H; exact H
   clear H
   have H := H1
   clear H1
   replace H := e4_ H
   obtain ⟨t241, A220, H⟩ := H
   replace H : (if t241 = 0 then (if t231 = true then (none) else ((pinfoldlaw0_Num.f t232).bind fun t242 => (if t242 = 0 then ((pinfoldlaw0_Num.f t234).bind fun t243 => (some (t243 == 1600))) else (none)))) else (none)) = some r := H
   have A22 := am_ A220
   clear A220
   by_cases c23 : t241 = 0
   rotate_left
   ·rw [if_neg c23] at H
    exact absurd H (by simp)
   rw [if_pos c23] at H
   have c23b0 : (t241 == 0) = true := beq_iff_eq.mpr c23
   have c23b1 : (t241 != 0) = false := e1_ c23
   clear c23
   by_cases c24 : t231 = true
   ·subst c24
    have H1 : (none) = some r := by rw [if_pos rfl] at H; exact H
    clear H
    have H := H1
    clear H1
    exact absurd H (by simp)
   replace c24 := e3_ c24
   subst c24
   have H1 : ((pinfoldlaw0_Num.f t232).bind fun t242 => (if t242 = 0 then ((pinfoldlaw0_Num.f t234).bind fun t243 => (some (t243 == 1600))) else (none))) = some r := by rw [if_neg (show ¬ (false = true) by decide)] at H; exact H
   clear H
   have H := H1
   clear H1
   replace H := e4_ H
   obtain ⟨t242, A250, H⟩ := H
   replace H : (if t242 = 0 then ((pinfoldlaw0_Num.f t234).bind fun t243 => (some (t243 == 1600))) else (none)) = some r := H
   have A25 := am_ A250
   clear A250
   by_cases c26 : t242 = 0
   rotate_left
   ·rw [if_neg c26] at H
    exact absurd H (by simp)
   rw [if_pos c26] at H
   have c26b0 : (t242 == 0) = true := beq_iff_eq.mpr c26
   have c26b1 : (t242 != 0) = false := e1_ c26
   clear c26
   replace H := e4_ H
   obtain ⟨t243, A270, H⟩ := H
   replace H : (some (t243 == 1600)) = some r := H
   have A27 := am_ A270
   clear A270
   obtain rfl := e5_ H
   go_enter Tryd.func36, Tryd.ntmps36
   go_wp2_with (first | ((with_reducible refine gate_callee (f := 37) rfl ?_); refine goesL_ (some 13) rfl rfl Tryd.func37 (by kernel_rfl) rfl #[] rfl (by (try simp only [List.map_toArray, List.map_cons, List.map_nil]); first | done | rfl | (simp only [List.length_drop, List.length_take]; rfl)) ?_; (with_reducible refine (pinfoldlaw16_given.calls  t208 t209 t210 t213 t216 t217 t218 _ A1.out).mono ?_); rintro e w28 ⟨v211, v214, v219, rfl, ho0, ho1, ho2, hb⟩; refine ⟨_, rfl, ?_⟩; have n0_ := am_ (Kd.R_lower ho0 (bz_ (by repeat (with_reducible first | exact HB.out | apply p3_ | apply p1_ | apply p2_)))); have n1_ := am_ (Kd.R_lower ho1 (bz_ (by repeat (with_reducible first | exact HB.out | apply p3_ | apply p1_ | apply p2_)))); have n2_ := am_ (Kd.R_lower ho2 (bz_ (by repeat (with_reducible first | exact HB.out | apply p3_ | apply p1_ | apply p2_)))); have n3_ := am_ (bt_ (by repeat (with_reducible first | exact HB.out | apply p3_ | apply p1_ | apply p2_)) hb); clear HB; have HO212 := n0_; have HO215 := n1_; have HO220 := n2_; have HB := n3_; clear n0_ n1_ n2_ n3_; (try clear hb); (try clear ho0); (try clear ho1); (try clear ho2)) | ((with_reducible refine gate_dst (N := 1) rfl ?_); refine box_event ?hg (N := 1) ?hd (cs := #[.int .i64 0, .int .i64 0, .slice none 0 0, .slice none 0 0, .int .i64 0, .string (⟨#[]⟩ : ByteArray), .slice none 0 0]) (t := 26) ?hr ?_; (case hd => rfl); (case hg => rfl); (case hr => first | (go_simp; done) | (go_simp; rfl)); intro gb221 hg w29 hbox hb; have n0_ := am_ (Kd.R_below (by (with_reducible repeat (first | apply r1_ | apply r2_ | apply r3_)); exact HO212.out) hb); have n1_ := am_ (Kd.R_below (by (with_reducible repeat (first | apply r1_ | apply r2_ | apply r3_)); exact HO215.out) hb); have n2_ := am_ (Kd.R_below (by (with_reducible repeat (first | apply r1_ | apply r2_ | apply r3_)); exact HO220.out) hb); have n3_ := am_ (bt_ (by repeat (with_reducible first | exact HB.out | apply p3_ | apply p1_ | apply p2_)) hb); have n4_ := am_ (hbox); have n5_ := am_ ((by rw [hg]; exact (bz_ (by repeat (with_reducible first | exact HB.out | apply p3_ | apply p1_ | apply p2_))) : w.heap.size ≤ gb221)); have n6_ := am_ ((by rw [hg]; exact (bz_ (by repeat (with_reducible first | exact HB.out | apply p3_ | apply p1_ | apply p2_))) : w.heap.size ≤ gb221)); clear HO212; clear HO215; clear HO220; clear HB; have HO212 := n0_; have HO215 := n1_; have HO220 := n2_; have HB := n3_; have BK221 := n4_; have GW221 := n5_; have GE221 := n6_; clear n0_ n1_ n2_ n3_ n4_ n5_ n6_; clear hb hbox hg; have hcz30_0 : w29.cell? ⟨gb221, 0, none⟩ = some (.int .i64 0) := (bc_ BK221.out 0).trans rfl; have hcz30_1 : w29.cell? ⟨gb221, 1, none⟩ = some (.int .i64 0) := (bc_ BK221.out 1).trans rfl; have hcz30_2 : w29.cell? ⟨gb221, 2, none⟩ = some (.slice none 0 0) := (bc_ BK221.out 2).trans rfl; have hcz30_3 : w29.cell? ⟨gb221, 3, none⟩ = some (.slice none 0 0) := (bc_ BK221.out 3).trans rfl; have hcz30_4 : w29.cell? ⟨gb221, 4, none⟩ = some (.int .i64 0) := (bc_ BK221.out 4).trans rfl; have hcz30_5 : w29.cell? ⟨gb221, 5, none⟩ = some (.string (⟨#[]⟩ : ByteArray)) := (bc_ BK221.out 5).trans rfl; have hcz30_6 : w29.cell? ⟨gb221, 6, none⟩ = some (.slice none 0 0) := (bc_ BK221.out 6).trans rfl; have hfz30_0 := bf_ BK221.out 0; have hfz30_1 := bf_ BK221.out 1; have hfz30_2 := bf_ BK221.out 2; have hfz30_3 := bf_ BK221.out 3; have hfz30_4 := bf_ BK221.out 4; have hfz30_5 := bf_ BK221.out 5; have hfz30_6 := bf_ BK221.out 6; obtain ⟨Ao31, co31, eo31⟩ := Kd.R_slice HO212.out; subst eo31; obtain ⟨Ao32, co32, eo32⟩ := Kd.R_slice HO215.out; subst eo32; obtain ⟨Ao33, co33, eo33⟩ := Kd.R_slice HO220.out; subst eo33) | ((with_reducible refine gate_dst (N := 15) rfl ?_); refine Kd.R_lit k62 _ 62 ?hg (N := 15) ?hd (xs := ([(⟨10, 2, (⟨#[97]⟩ : ByteArray), 9, (⟨#[112, 99]⟩ : ByteArray), true⟩ : S62)] : List (S62))) (inner := [.int .i64 10, .int .i64 2, .string (⟨#[97]⟩ : ByteArray), .int .i64 9, .string (⟨#[112, 99]⟩ : ByteArray), .bool true]) (ok := fun _ => True) (okp := fun _ => True) ?hr ?hp (fun _ hk => hk) trivial (Below.refl _ _) (Nat.le_refl _) (by simp) ?_; (case hd => rfl); (case hg => rfl); (case hr => first | (go_simp; done) | (go_simp; rfl)); (case hp => exact (Reps.c6 (show Kd.M k62 _ _ _ (⟨10, 2, (⟨#[97]⟩ : ByteArray), 9, (⟨#[112, 99]⟩ : ByteArray), true⟩ : S62) [.int .i64 10, .int .i64 2, .string (⟨#[97]⟩ : ByteArray), .int .i64 9, .string (⟨#[112, 99]⟩ : ByteArray), .bool true] from (k62_mkM _ _ _ (⟨10, 2, (⟨#[97]⟩ : ByteArray), 9, (⟨#[112, 99]⟩ : ByteArray), true⟩ : S62) )) (Reps.none _ _))); intro v223 w34 ho35 hb hg_ hnew_; clear hg_ hnew_; (first | rw [← Ny222.out] at ho35 | (simp only [Int.reduceToNat] at ho35; rw [← Ny222.out] at ho35)); have n0_ := am_ (Kd.R_below (by (with_reducible repeat (first | apply r1_ | apply r2_ | apply r3_)); exact (Kd.R_mono (Kd.R_far (p := ⟨gb221, 6, none⟩) (Kd.R_far (p := ⟨gb221, 5, none⟩) (Kd.R_far (p := ⟨gb221, 4, none⟩) (Kd.R_far (p := ⟨gb221, 3, none⟩) (Kd.R_far (p := ⟨gb221, 2, none⟩) (Kd.R_far (p := ⟨gb221, 1, none⟩) (Kd.R_far (p := ⟨gb221, 0, none⟩) (Kd.R_types HO212.out BK221.out (by decide)) (fun _ hk => hk.2) (.int .i64 t208)) (fun _ hk => hk.2) (.int .i64 t209)) (fun _ hk => hk.2) (.slice Ao31 t210.length co31)) (fun _ hk => hk.2) (.slice Ao32 t213.length co32)) (fun _ hk => hk.2) (.int .i64 t216)) (fun _ hk => hk.2) (.string t217)) (fun _ hk => hk.2) (.slice Ao33 t218.length co33)) (fun _ h_ => h_.1))) hb); have n1_ := am_ (Kd.R_below (by (with_reducible repeat (first | apply r1_ | apply r2_ | apply r3_)); exact (Kd.R_mono (Kd.R_far (p := ⟨gb221, 6, none⟩) (Kd.R_far (p := ⟨gb221, 5, none⟩) (Kd.R_far (p := ⟨gb221, 4, none⟩) (Kd.R_far (p := ⟨gb221, 3, none⟩) (Kd.R_far (p := ⟨gb221, 2, none⟩) (Kd.R_far (p := ⟨gb221, 1, none⟩) (Kd.R_far (p := ⟨gb221, 0, none⟩) (Kd.R_types HO215.out BK221.out (by decide)) (fun _ hk => hk.2) (.int .i64 t208)) (fun _ hk => hk.2) (.int .i64 t209)) (fun _ hk => hk.2) (.slice Ao31 t210.length co31)) (fun _ hk => hk.2) (.slice Ao32 t213.length co32)) (fun _ hk => hk.2) (.int .i64 t216)) (fun _ hk => hk.2) (.string t217)) (fun _ hk => hk.2) (.slice Ao33 t218.length co33)) (fun _ h_ => h_.1))) hb); have n2_ := am_ (Kd.R_below (by (with_reducible repeat (first | apply r1_ | apply r2_ | apply r3_)); exact (Kd.R_mono (Kd.R_far (p := ⟨gb221, 6, none⟩) (Kd.R_far (p := ⟨gb221, 5, none⟩) (Kd.R_far (p := ⟨gb221, 4, none⟩) (Kd.R_far (p := ⟨gb221, 3, none⟩) (Kd.R_far (p := ⟨gb221, 2, none⟩) (Kd.R_far (p := ⟨gb221, 1, none⟩) (Kd.R_far (p := ⟨gb221, 0, none⟩) (Kd.R_types HO220.out BK221.out (by decide)) (fun _ hk => hk.2) (.int .i64 t208)) (fun _ hk => hk.2) (.int .i64 t209)) (fun _ hk => hk.2) (.slice Ao31 t210.length co31)) (fun _ hk => hk.2) (.slice Ao32 t213.length co32)) (fun _ hk => hk.2) (.int .i64 t216)) (fun _ hk => hk.2) (.string t217)) (fun _ hk => hk.2) (.slice Ao33 t218.length co33)) (fun _ h_ => h_.1))) hb); have n3_ := am_ (Kd.R_lower ho35 (bz_ (by repeat (with_reducible first | exact HB.out | apply p3_ | apply p1_ | apply p2_ | refine bs_ ?_ GE221.out)))); have n4_ := am_ (kb_ (g := gb221) (o := .cells #[.int .i64 t208, .int .i64 t209, .slice Ao31 t210.length co31, .slice Ao32 t213.length co32, .int .i64 t216, .string t217, .slice Ao33 t218.length co33] 26 (0, 0)) (by (with_reducible repeat (first | refine k2_ ?_ _ | refine k3_ ?_ | refine k1_ ?_ _)); refine blk_put (cs := #[.int .i64 t208, .int .i64 t209, .slice Ao31 t210.length co31, .slice Ao32 t213.length co32, .int .i64 t216, .string t217, .slice none 0 0]) ?_ 6 _ rfl; (with_reducible repeat (first | refine k2_ ?_ _ | refine k3_ ?_ | refine k1_ ?_ _)); refine blk_put (cs := #[.int .i64 t208, .int .i64 t209, .slice Ao31 t210.length co31, .slice Ao32 t213.length co32, .int .i64 t216, .string (⟨#[]⟩ : ByteArray), .slice none 0 0]) ?_ 5 _ rfl; (with_reducible repeat (first | refine k2_ ?_ _ | refine k3_ ?_ | refine k1_ ?_ _)); refine blk_put (cs := #[.int .i64 t208, .int .i64 t209, .slice Ao31 t210.length co31, .slice Ao32 t213.length co32, .int .i64 0, .string (⟨#[]⟩ : ByteArray), .slice none 0 0]) ?_ 4 _ rfl; (with_reducible repeat (first | refine k2_ ?_ _ | refine k3_ ?_ | refine k1_ ?_ _)); refine blk_put (cs := #[.int .i64 t208, .int .i64 t209, .slice Ao31 t210.length co31, .slice none 0 0, .int .i64 0, .string (⟨#[]⟩ : ByteArray), .slice none 0 0]) ?_ 3 _ rfl; (with_reducible repeat (first | refine k2_ ?_ _ | refine k3_ ?_ | refine k1_ ?_ _)); refine blk_put (cs := #[.int .i64 t208, .int .i64 t209, .slice none 0 0, .slice none 0 0, .int .i64 0, .string (⟨#[]⟩ : ByteArray), .slice none 0 0]) ?_ 2 _ rfl; (with_reducible repeat (first | refine k2_ ?_ _ | refine k3_ ?_ | refine k1_ ?_ _)); refine blk_put (cs := #[.int .i64 t208, .int .i64 0, .slice none 0 0, .slice none 0 0, .int .i64 0, .string (⟨#[]⟩ : ByteArray), .slice none 0 0]) ?_ 1 _ rfl; (with_reducible repeat (first | refine k2_ ?_ _ | refine k3_ ?_ | refine k1_ ?_ _)); refine blk_put (cs := #[.int .i64 0, .int .i64 0, .slice none 0 0, .slice none 0 0, .int .i64 0, .string (⟨#[]⟩ : ByteArray), .slice none 0 0]) ?_ 0 _ rfl; (with_reducible repeat (first | refine k2_ ?_ _ | refine k3_ ?_ | refine k1_ ?_ _)); exact BK221.out) hb); have n5_ := am_ (bt_ (by repeat (with_reducible first | exact HB.out | apply p3_ | apply p1_ | apply p2_ | refine bs_ ?_ GE221.out)) hb); clear HO212; clear HO215; clear HO220; clear BK221; clear HB; have HO212 := n0_; have HO215 := n1_; have HO220 := n2_; have HO224 := n3_; have BK221 := n4_; have HB := n5_; clear n0_ n1_ n2_ n3_ n4_ n5_; clear hb ho35; have hcz36_0 : w34.cell? ⟨gb221, 0, none⟩ = some (.int .i64 t208) := (bc_ BK221.out 0).trans rfl; have hcz36_1 : w34.cell? ⟨gb221, 1, none⟩ = some (.int .i64 t209) := (bc_ BK221.out 1).trans rfl; have hcz36_2 : w34.cell? ⟨gb221, 2, none⟩ = some (.slice Ao31 t210.length co31) := (bc_ BK221.out 2).trans rfl; have hcz36_3 : w34.cell? ⟨gb221, 3, none⟩ = some (.slice Ao32 t213.length co32) := (bc_ BK221.out 3).trans rfl; have hcz36_4 : w34.cell? ⟨gb221, 4, none⟩ = some (.int .i64 t216) := (bc_ BK221.out 4).trans rfl; have hcz36_5 : w34.cell? ⟨gb221, 5, none⟩ = some (.string t217) := (bc_ BK221.out 5).trans rfl; have hcz36_6 : w34.cell? ⟨gb221, 6, none⟩ = some (.slice Ao33 t218.length co33) := (bc_ BK221.out 6).trans rfl; have hfz36_0 := bf_ BK221.out 0; have hfz36_1 := bf_ BK221.out 1; have hfz36_2 := bf_ BK221.out 2; have hfz36_3 := bf_ BK221.out 3; have hfz36_4 := bf_ BK221.out 4; have hfz36_5 := bf_ BK221.out 5; have hfz36_6 := bf_ BK221.out 6; obtain ⟨Ao37, co37, eo37⟩ := Kd.R_slice HO224.out; subst eo37) | ((with_reducible refine gate_callee (f := 31) rfl ?_); refine goesL_ (some 19) rfl rfl Tryd.func31 (by kernel_rfl) rfl #[.agg #[.int .i64 t208, .int .i64 t209, .slice Ao31 t210.length co31, .slice Ao32 t213.length co32, .int .i64 t216, .string t217, .slice Ao33 t218.length co33], .slice Ao37 y222.length co37, .int .i64 0, .string (⟨#[98]⟩ : ByteArray), .string (⟨#[112, 99, 46, 108, 97, 110]⟩ : ByteArray)] rfl (by (try simp only [List.map_toArray, List.map_cons, List.map_nil]); first | done | rfl | (simp only [List.length_drop, List.length_take]; rfl)) ?_; (with_reducible refine (regis_Free.calls t208 t209 _ _ t210 _ _ t213 t216 t217 _ _ t218 _ _ y222 0 (⟨#[98]⟩ : ByteArray) (⟨#[112, 99, 46, 108, 97, 110]⟩ : ByteArray) false t226 _ ?side1 ?side2 ?side3 ?side4 ?side5 ?side6 ?side7 ?side8 A2.out).mono ?_); (case side1 => repeat (first | exact (Kd.R_reads' HO212.out).2.2 | (with_reducible refine c1_ ?_ _) | (with_reducible refine c2_ ?_ _) | (with_reducible refine c3_ ?_))); (case side2 => exact (Kd.R_reads' HO212.out).2.1); (case side3 => repeat (first | exact (Kd.R_reads' HO215.out).2.2 | (with_reducible refine c1_ ?_ _) | (with_reducible refine c2_ ?_ _) | (with_reducible refine c3_ ?_))); (case side4 => exact (Kd.R_reads' HO215.out).2.1); (case side5 => repeat (first | exact (Kd.R_reads' HO220.out).2.2 | (with_reducible refine c1_ ?_ _) | (with_reducible refine c2_ ?_ _) | (with_reducible refine c3_ ?_))); (case side6 => exact (Kd.R_reads' HO220.out).2.1); (case side7 => repeat (first | exact (Kd.R_reads' HO224.out).2.2 | (with_reducible refine c1_ ?_ _) | (with_reducible refine c2_ ?_ _) | (with_reducible refine c3_ ?_))); (case side8 => exact (Kd.R_reads' HO224.out).2.1); rintro e w38 ⟨rfl, hb⟩; refine ⟨_, rfl, ?_⟩; have n0_ := am_ (Kd.R_below (by (with_reducible repeat (first | apply r1_ | apply r2_ | apply r3_)); exact HO212.out) hb); have n1_ := am_ (Kd.R_below (by (with_reducible repeat (first | apply r1_ | apply r2_ | apply r3_)); exact HO215.out) hb); have n2_ := am_ (Kd.R_below (by (with_reducible repeat (first | apply r1_ | apply r2_ | apply r3_)); exact HO220.out) hb); have n3_ := am_ (Kd.R_below (by (with_reducible repeat (first | apply r1_ | apply r2_ | apply r3_)); exact HO224.out) hb); have n4_ := am_ (kb_ (g := gb221) (o := .cells #[.int .i64 t208, .int .i64 t209, .slice Ao31 t210.length co31, .slice Ao32 t213.length co32, .int .i64 t216, .string t217, .slice Ao33 t218.length co33] 26 (0, 0)) (by (with_reducible repeat (first | refine k2_ ?_ _ | refine k3_ ?_ | refine k1_ ?_ _)); exact BK221.out) hb); have n5_ := am_ (bt_ (by repeat (with_reducible first | exact HB.out | apply p3_ | apply p1_ | apply p2_ | refine bs_ ?_ GE221.out)) hb); clear HO212; clear HO215; clear HO220; clear HO224; clear BK221; clear HB; have HO212 := n0_; have HO215 := n1_; have HO220 := n2_; have HO224 := n3_; have BK221 := n4_; have HB := n5_; clear n0_ n1_ n2_ n3_ n4_ n5_; (try clear hb); have hcz39_0 : w38.cell? ⟨gb221, 0, none⟩ = some (.int .i64 t208) := (bc_ BK221.out 0).trans rfl; have hcz39_1 : w38.cell? ⟨gb221, 1, none⟩ = some (.int .i64 t209) := (bc_ BK221.out 1).trans rfl; have hcz39_2 : w38.cell? ⟨gb221, 2, none⟩ = some (.slice Ao31 t210.length co31) := (bc_ BK221.out 2).trans rfl; have hcz39_3 : w38.cell? ⟨gb221, 3, none⟩ = some (.slice Ao32 t213.length co32) := (bc_ BK221.out 3).trans rfl; have hcz39_4 : w38.cell? ⟨gb221, 4, none⟩ = some (.int .i64 t216) := (bc_ BK221.out 4).trans rfl; have hcz39_5 : w38.cell? ⟨gb221, 5, none⟩ = some (.string t217) := (bc_ BK221.out 5).trans rfl; have hcz39_6 : w38.cell? ⟨gb221, 6, none⟩ = some (.slice Ao33 t218.length co33) := (bc_ BK221.out 6).trans rfl; have hfz39_0 := bf_ BK221.out 0; have hfz39_1 := bf_ BK221.out 1; have hfz39_2 := bf_ BK221.out 2; have hfz39_3 := bf_ BK221.out 3; have hfz39_4 := bf_ BK221.out 4; have hfz39_5 := bf_ BK221.out 5; have hfz39_6 := bf_ BK221.out 6) | ((with_reducible refine gate_callee (f := 31) rfl ?_); refine goesL_ (some 25) rfl rfl Tryd.func31 (by kernel_rfl) rfl #[.agg #[.int .i64 t208, .int .i64 t209, .slice Ao31 t210.length co31, .slice Ao32 t213.length co32, .int .i64 t216, .string t217, .slice Ao33 t218.length co33], .slice Ao37 y222.length co37, .int .i64 0, .string (⟨#[97]⟩ : ByteArray), .string (⟨#[112, 99]⟩ : ByteArray)] rfl (by (try simp only [List.map_toArray, List.map_cons, List.map_nil]); first | done | rfl | (simp only [List.length_drop, List.length_take]; rfl)) ?_; (with_reducible refine (regis_Free.calls t208 t209 _ _ t210 _ _ t213 t216 t217 _ _ t218 _ _ y222 0 (⟨#[97]⟩ : ByteArray) (⟨#[112, 99]⟩ : ByteArray) true t228 _ ?side1 ?side2 ?side3 ?side4 ?side5 ?side6 ?side7 ?side8 A3.out).mono ?_); (case side1 => repeat (first | exact (Kd.R_reads' HO212.out).2.2 | (with_reducible refine c1_ ?_ _) | (with_reducible refine c2_ ?_ _) | (with_reducible refine c3_ ?_))); (case side2 => exact (Kd.R_reads' HO212.out).2.1); (case side3 => repeat (first | exact (Kd.R_reads' HO215.out).2.2 | (with_reducible refine c1_ ?_ _) | (with_reducible refine c2_ ?_ _) | (with_reducible refine c3_ ?_))); (case side4 => exact (Kd.R_reads' HO215.out).2.1); (case side5 => repeat (first | exact (Kd.R_reads' HO220.out).2.2 | (with_reducible refine c1_ ?_ _) | (with_reducible refine c2_ ?_ _) | (with_reducible refine c3_ ?_))); (case side6 => exact (Kd.R_reads' HO220.out).2.1); (case side7 => repeat (first | exact (Kd.R_reads' HO224.out).2.2 | (with_reducible refine c1_ ?_ _) | (with_reducible refine c2_ ?_ _) | (with_reducible refine c3_ ?_))); (case side8 => exact (Kd.R_reads' HO224.out).2.1); rintro e w40 ⟨rfl, hb⟩; refine ⟨_, rfl, ?_⟩; have n0_ := am_ (Kd.R_below (by (with_reducible repeat (first | apply r1_ | apply r2_ | apply r3_)); exact HO212.out) hb); have n1_ := am_ (Kd.R_below (by (with_reducible repeat (first | apply r1_ | apply r2_ | apply r3_)); exact HO215.out) hb); have n2_ := am_ (Kd.R_below (by (with_reducible repeat (first | apply r1_ | apply r2_ | apply r3_)); exact HO220.out) hb); have n3_ := am_ (Kd.R_below (by (with_reducible repeat (first | apply r1_ | apply r2_ | apply r3_)); exact HO224.out) hb); have n4_ := am_ (kb_ (g := gb221) (o := .cells #[.int .i64 t208, .int .i64 t209, .slice Ao31 t210.length co31, .slice Ao32 t213.length co32, .int .i64 t216, .string t217, .slice Ao33 t218.length co33] 26 (0, 0)) (by (with_reducible repeat (first | refine k2_ ?_ _ | refine k3_ ?_ | refine k1_ ?_ _)); exact BK221.out) hb); have n5_ := am_ (bt_ (by repeat (with_reducible first | exact HB.out | apply p3_ | apply p1_ | apply p2_ | refine bs_ ?_ GE221.out)) hb); clear HO212; clear HO215; clear HO220; clear HO224; clear BK221; clear HB; have HO212 := n0_; have HO215 := n1_; have HO220 := n2_; have HO224 := n3_; have BK221 := n4_; have HB := n5_; clear n0_ n1_ n2_ n3_ n4_ n5_; (try clear hb); have hcz41_0 : w40.cell? ⟨gb221, 0, none⟩ = some (.int .i64 t208) := (bc_ BK221.out 0).trans rfl; have hcz41_1 : w40.cell? ⟨gb221, 1, none⟩ = some (.int .i64 t209) := (bc_ BK221.out 1).trans rfl; have hcz41_2 : w40.cell? ⟨gb221, 2, none⟩ = some (.slice Ao31 t210.length co31) := (bc_ BK221.out 2).trans rfl; have hcz41_3 : w40.cell? ⟨gb221, 3, none⟩ = some (.slice Ao32 t213.length co32) := (bc_ BK221.out 3).trans rfl; have hcz41_4 : w40.cell? ⟨gb221, 4, none⟩ = some (.int .i64 t216) := (bc_ BK221.out 4).trans rfl; have hcz41_5 : w40.cell? ⟨gb221, 5, none⟩ = some (.string t217) := (bc_ BK221.out 5).trans rfl; have hcz41_6 : w40.cell? ⟨gb221, 6, none⟩ = some (.slice Ao33 t218.length co33) := (bc_ BK221.out 6).trans rfl; have hfz41_0 := bf_ BK221.out 0; have hfz41_1 := bf_ BK221.out 1; have hfz41_2 := bf_ BK221.out 2; have hfz41_3 := bf_ BK221.out 3; have hfz41_4 := bf_ BK221.out 4; have hfz41_5 := bf_ BK221.out 5; have hfz41_6 := bf_ BK221.out 6) | ((with_reducible refine gate_callee (f := 31) rfl ?_); refine goesL_ (some 31) rfl rfl Tryd.func31 (by kernel_rfl) rfl #[.agg #[.int .i64 t208, .int .i64 t209, .slice Ao31 t210.length co31, .slice Ao32 t213.length co32, .int .i64 t216, .string t217, .slice Ao33 t218.length co33], .slice Ao37 y222.length co37, .int .i64 9, .string (⟨#[98]⟩ : ByteArray), .string (⟨#[112, 99]⟩ : ByteArray)] rfl (by (try simp only [List.map_toArray, List.map_cons, List.map_nil]); first | done | rfl | (simp only [List.length_drop, List.length_take]; rfl)) ?_; (with_reducible refine (regis_Free.calls t208 t209 _ _ t210 _ _ t213 t216 t217 _ _ t218 _ _ y222 9 (⟨#[98]⟩ : ByteArray) (⟨#[112, 99]⟩ : ByteArray) true t230 _ ?side1 ?side2 ?side3 ?side4 ?side5 ?side6 ?side7 ?side8 A4.out).mono ?_); (case side1 => repeat (first | exact (Kd.R_reads' HO212.out).2.2 | (with_reducible refine c1_ ?_ _) | (with_reducible refine c2_ ?_ _) | (with_reducible refine c3_ ?_))); (case side2 => exact (Kd.R_reads' HO212.out).2.1); (case side3 => repeat (first | exact (Kd.R_reads' HO215.out).2.2 | (with_reducible refine c1_ ?_ _) | (with_reducible refine c2_ ?_ _) | (with_reducible refine c3_ ?_))); (case side4 => exact (Kd.R_reads' HO215.out).2.1); (case side5 => repeat (first | exact (Kd.R_reads' HO220.out).2.2 | (with_reducible refine c1_ ?_ _) | (with_reducible refine c2_ ?_ _) | (with_reducible refine c3_ ?_))); (case side6 => exact (Kd.R_reads' HO220.out).2.1); (case side7 => repeat (first | exact (Kd.R_reads' HO224.out).2.2 | (with_reducible refine c1_ ?_ _) | (with_reducible refine c2_ ?_ _) | (with_reducible refine c3_ ?_))); (case side8 => exact (Kd.R_reads' HO224.out).2.1); rintro e w42 ⟨rfl, hb⟩; refine ⟨_, rfl, ?_⟩; have n0_ := am_ (Kd.R_below (by (with_reducible repeat (first | apply r1_ | apply r2_ | apply r3_)); exact HO212.out) hb); have n1_ := am_ (Kd.R_below (by (with_reducible repeat (first | apply r1_ | apply r2_ | apply r3_)); exact HO215.out) hb); have n2_ := am_ (Kd.R_below (by (with_reducible repeat (first | apply r1_ | apply r2_ | apply r3_)); exact HO220.out) hb); have n3_ := am_ (Kd.R_below (by (with_reducible repeat (first | apply r1_ | apply r2_ | apply r3_)); exact HO224.out) hb); have n4_ := am_ (kb_ (g := gb221) (o := .cells #[.int .i64 t208, .int .i64 t209, .slice Ao31 t210.length co31, .slice Ao32 t213.length co32, .int .i64 t216, .string t217, .slice Ao33 t218.length co33] 26 (0, 0)) (by (with_reducible repeat (first | refine k2_ ?_ _ | refine k3_ ?_ | refine k1_ ?_ _)); exact BK221.out) hb); have n5_ := am_ (bt_ (by repeat (with_reducible first | exact HB.out | apply p3_ | apply p1_ | apply p2_ | refine bs_ ?_ GE221.out)) hb); clear HO212; clear HO215; clear HO220; clear HO224; clear BK221; clear HB; have HO212 := n0_; have HO215 := n1_; have HO220 := n2_; have HO224 := n3_; have BK221 := n4_; have HB := n5_; clear n0_ n1_ n2_ n3_ n4_ n5_; (try clear hb); have hcz43_0 : w42.cell? ⟨gb221, 0, none⟩ = some (.int .i64 t208) := (bc_ BK221.out 0).trans rfl; have hcz43_1 : w42.cell? ⟨gb221, 1, none⟩ = some (.int .i64 t209) := (bc_ BK221.out 1).trans rfl; have hcz43_2 : w42.cell? ⟨gb221, 2, none⟩ = some (.slice Ao31 t210.length co31) := (bc_ BK221.out 2).trans rfl; have hcz43_3 : w42.cell? ⟨gb221, 3, none⟩ = some (.slice Ao32 t213.length co32) := (bc_ BK221.out 3).trans rfl; have hcz43_4 : w42.cell? ⟨gb221, 4, none⟩ = some (.int .i64 t216) := (bc_ BK221.out 4).trans rfl; have hcz43_5 : w42.cell? ⟨gb221, 5, none⟩ = some (.string t217) := (bc_ BK221.out 5).trans rfl; have hcz43_6 : w42.cell? ⟨gb221, 6, none⟩ = some (.slice Ao33 t218.length co33) := (bc_ BK221.out 6).trans rfl; have hfz43_0 := bf_ BK221.out 0; have hfz43_1 := bf_ BK221.out 1; have hfz43_2 := bf_ BK221.out 2; have hfz43_3 := bf_ BK221.out 3; have hfz43_4 := bf_ BK221.out 4; have hfz43_5 := bf_ BK221.out 5; have hfz43_6 := bf_ BK221.out 6) | ((with_reducible refine gate_callee (f := 31) rfl ?_); refine goesL_ (some 36) rfl rfl Tryd.func31 (by kernel_rfl) rfl #[.agg #[.int .i64 t208, .int .i64 t209, .slice Ao31 t210.length co31, .slice Ao32 t213.length co32, .int .i64 t216, .string t217, .slice Ao33 t218.length co33], .slice none 0 0, .int .i64 0, .string (⟨#[98]⟩ : ByteArray), .string (⟨#[119, 119, 119]⟩ : ByteArray)] rfl (by (try simp only [List.map_toArray, List.map_cons, List.map_nil]); first | done | rfl | (simp only [List.length_drop, List.length_take]; rfl)) ?_; (refine (regis_Free.calls t208 t209 _ _ t210 _ _ t213 t216 t217 _ _ t218 _ _ ([] : List (S62)) 0 (⟨#[98]⟩ : ByteArray) (⟨#[119, 119, 119]⟩ : ByteArray) false t232 _ ?side1 ?side2 ?side3 ?side4 ?side5 ?side6 ?side7 ?side8 A5.out).mono ?_); (case side1 => repeat (first | exact (Kd.R_reads' HO212.out).2.2 | (with_reducible refine c1_ ?_ _) | (with_reducible refine c2_ ?_ _) | (with_reducible refine c3_ ?_))); (case side2 => exact (Kd.R_reads' HO212.out).2.1); (case side3 => repeat (first | exact (Kd.R_reads' HO215.out).2.2 | (with_reducible refine c1_ ?_ _) | (with_reducible refine c2_ ?_ _) | (with_reducible refine c3_ ?_))); (case side4 => exact (Kd.R_reads' HO215.out).2.1); (case side5 => repeat (first | exact (Kd.R_reads' HO220.out).2.2 | (with_reducible refine c1_ ?_ _) | (with_reducible refine c2_ ?_ _) | (with_reducible refine c3_ ?_))); (case side6 => exact (Kd.R_reads' HO220.out).2.1); (case side7 => exact Kd.C_nil _ _); (case side8 => exact Nat.le_refl _); rintro e w44 ⟨rfl, hb⟩; refine ⟨_, rfl, ?_⟩; have n0_ := am_ (Kd.R_below (by (with_reducible repeat (first | apply r1_ | apply r2_ | apply r3_)); exact HO212.out) hb); have n1_ := am_ (Kd.R_below (by (with_reducible repeat (first | apply r1_ | apply r2_ | apply r3_)); exact HO215.out) hb); have n2_ := am_ (Kd.R_below (by (with_reducible repeat (first | apply r1_ | apply r2_ | apply r3_)); exact HO220.out) hb); have n3_ := am_ (Kd.R_below (by (with_reducible repeat (first | apply r1_ | apply r2_ | apply r3_)); exact HO224.out) hb); have n4_ := am_ (kb_ (g := gb221) (o := .cells #[.int .i64 t208, .int .i64 t209, .slice Ao31 t210.length co31, .slice Ao32 t213.length co32, .int .i64 t216, .string t217, .slice Ao33 t218.length co33] 26 (0, 0)) (by (with_reducible repeat (first | refine k2_ ?_ _ | refine k3_ ?_ | refine k1_ ?_ _)); exact BK221.out) hb); have n5_ := am_ (bt_ (by repeat (with_reducible first | exact HB.out | apply p3_ | apply p1_ | apply p2_ | refine bs_ ?_ GE221.out)) hb); clear HO212; clear HO215; clear HO220; clear HO224; clear BK221; clear HB; have HO212 := n0_; have HO215 := n1_; have HO220 := n2_; have HO224 := n3_; have BK221 := n4_; have HB := n5_; clear n0_ n1_ n2_ n3_ n4_ n5_; (try clear hb); have hcz45_0 : w44.cell? ⟨gb221, 0, none⟩ = some (.int .i64 t208) := (bc_ BK221.out 0).trans rfl; have hcz45_1 : w44.cell? ⟨gb221, 1, none⟩ = some (.int .i64 t209) := (bc_ BK221.out 1).trans rfl; have hcz45_2 : w44.cell? ⟨gb221, 2, none⟩ = some (.slice Ao31 t210.length co31) := (bc_ BK221.out 2).trans rfl; have hcz45_3 : w44.cell? ⟨gb221, 3, none⟩ = some (.slice Ao32 t213.length co32) := (bc_ BK221.out 3).trans rfl; have hcz45_4 : w44.cell? ⟨gb221, 4, none⟩ = some (.int .i64 t216) := (bc_ BK221.out 4).trans rfl; have hcz45_5 : w44.cell? ⟨gb221, 5, none⟩ = some (.string t217) := (bc_ BK221.out 5).trans rfl; have hcz45_6 : w44.cell? ⟨gb221, 6, none⟩ = some (.slice Ao33 t218.length co33) := (bc_ BK221.out 6).trans rfl; have hfz45_0 := bf_ BK221.out 0; have hfz45_1 := bf_ BK221.out 1; have hfz45_2 := bf_ BK221.out 2; have hfz45_3 := bf_ BK221.out 3; have hfz45_4 := bf_ BK221.out 4; have hfz45_5 := bf_ BK221.out 5; have hfz45_6 := bf_ BK221.out 6) | ((with_reducible refine gate_callee (f := 31) rfl ?_); refine goesL_ (some 42) rfl rfl Tryd.func31 (by kernel_rfl) rfl #[.agg #[.int .i64 t208, .int .i64 t209, .slice Ao31 t210.length co31, .slice Ao32 t213.length co32, .int .i64 t216, .string t217, .slice Ao33 t218.length co33], .slice Ao37 y222.length co37, .int .i64 0, .string (⟨#[98]⟩ : ByteArray), .string (⟨#[65]⟩ : ByteArray)] rfl (by (try simp only [List.map_toArray, List.map_cons, List.map_nil]); first | done | rfl | (simp only [List.length_drop, List.length_take]; rfl)) ?_; (with_reducible refine (regis_Free.calls t208 t209 _ _ t210 _ _ t213 t216 t217 _ _ t218 _ _ y222 0 (⟨#[98]⟩ : ByteArray) (⟨#[65]⟩ : ByteArray) t233 t234 _ ?side1 ?side2 ?side3 ?side4 ?side5 ?side6 ?side7 ?side8 A6.out).mono ?_); (case side1 => repeat (first | exact (Kd.R_reads' HO212.out).2.2 | (with_reducible refine c1_ ?_ _) | (with_reducible refine c2_ ?_ _) | (with_reducible refine c3_ ?_))); (case side2 => exact (Kd.R_reads' HO212.out).2.1); (case side3 => repeat (first | exact (Kd.R_reads' HO215.out).2.2 | (with_reducible refine c1_ ?_ _) | (with_reducible refine c2_ ?_ _) | (with_reducible refine c3_ ?_))); (case side4 => exact (Kd.R_reads' HO215.out).2.1); (case side5 => repeat (first | exact (Kd.R_reads' HO220.out).2.2 | (with_reducible refine c1_ ?_ _) | (with_reducible refine c2_ ?_ _) | (with_reducible refine c3_ ?_))); (case side6 => exact (Kd.R_reads' HO220.out).2.1); (case side7 => repeat (first | exact (Kd.R_reads' HO224.out).2.2 | (with_reducible refine c1_ ?_ _) | (with_reducible refine c2_ ?_ _) | (with_reducible refine c3_ ?_))); (case side8 => exact (Kd.R_reads' HO224.out).2.1); rintro e w46 ⟨rfl, hb⟩; refine ⟨_, rfl, ?_⟩; have n0_ := am_ (Kd.R_below (by (with_reducible repeat (first | apply r1_ | apply r2_ | apply r3_)); exact HO212.out) hb); have n1_ := am_ (Kd.R_below (by (with_reducible repeat (first | apply r1_ | apply r2_ | apply r3_)); exact HO215.out) hb); have n2_ := am_ (Kd.R_below (by (with_reducible repeat (first | apply r1_ | apply r2_ | apply r3_)); exact HO220.out) hb); have n3_ := am_ (Kd.R_below (by (with_reducible repeat (first | apply r1_ | apply r2_ | apply r3_)); exact HO224.out) hb); have n4_ := am_ (kb_ (g := gb221) (o := .cells #[.int .i64 t208, .int .i64 t209, .slice Ao31 t210.length co31, .slice Ao32 t213.length co32, .int .i64 t216, .string t217, .slice Ao33 t218.length co33] 26 (0, 0)) (by (with_reducible repeat (first | refine k2_ ?_ _ | refine k3_ ?_ | refine k1_ ?_ _)); exact BK221.out) hb); have n5_ := am_ (bt_ (by repeat (with_reducible first | exact HB.out | apply p3_ | apply p1_ | apply p2_ | refine bs_ ?_ GE221.out)) hb); clear HO212; clear HO215; clear HO220; clear HO224; clear BK221; clear HB; have HO212 := n0_; have HO215 := n1_; have HO220 := n2_; have HO224 := n3_; have BK221 := n4_; have HB := n5_; clear n0_ n1_ n2_ n3_ n4_ n5_; (try clear hb); have hcz47_0 : w46.cell? ⟨gb221, 0, none⟩ = some (.int .i64 t208) := (bc_ BK221.out 0).trans rfl; have hcz47_1 : w46.cell? ⟨gb221, 1, none⟩ = some (.int .i64 t209) := (bc_ BK221.out 1).trans rfl; have hcz47_2 : w46.cell? ⟨gb221, 2, none⟩ = some (.slice Ao31 t210.length co31) := (bc_ BK221.out 2).trans rfl; have hcz47_3 : w46.cell? ⟨gb221, 3, none⟩ = some (.slice Ao32 t213.length co32) := (bc_ BK221.out 3).trans rfl; have hcz47_4 : w46.cell? ⟨gb221, 4, none⟩ = some (.int .i64 t216) := (bc_ BK221.out 4).trans rfl; have hcz47_5 : w46.cell? ⟨gb221, 5, none⟩ = some (.string t217) := (bc_ BK221.out 5).trans rfl; have hcz47_6 : w46.cell? ⟨gb221, 6, none⟩ = some (.slice Ao33 t218.length co33) := (bc_ BK221.out 6).trans rfl; have hfz47_0 := bf_ BK221.out 0; have hfz47_1 := bf_ BK221.out 1; have hfz47_2 := bf_ BK221.out 2; have hfz47_3 := bf_ BK221.out 3; have hfz47_4 := bf_ BK221.out 4; have hfz47_5 := bf_ BK221.out 5; have hfz47_6 := bf_ BK221.out 6) | ((with_reducible refine gate_callee (f := 33) rfl ?_); refine goesL_ (some 46) rfl rfl Tryd.func33 (by kernel_rfl) rfl #[.agg #[.int .i64 t208, .int .i64 t209, .slice Ao31 t210.length co31, .slice Ao32 t213.length co32, .int .i64 t216, .string t217, .slice Ao33 t218.length co33], .string (⟨#[112, 99]⟩ : ByteArray)] rfl (by (try simp only [List.map_toArray, List.map_cons, List.map_nil]); first | done | rfl | (simp only [List.length_drop, List.length_take]; rfl)) ?_; (with_reducible refine (regis_Full_c.calls t208 t209 _ _ t210 _ _ t213 t216 t217 _ _ t218 (⟨#[112, 99]⟩ : ByteArray) t235 _ ?side1 ?side2 ?side3 ?side4 ?side5 ?side6 A7.out).mono ?_); (case side1 => repeat (first | exact (Kd.R_reads' HO212.out).2.2 | (with_reducible refine c1_ ?_ _) | (with_reducible refine c2_ ?_ _) | (with_reducible refine c3_ ?_))); (case side2 => exact (Kd.R_reads' HO212.out).2.1); (case side3 => repeat (first | exact (Kd.R_reads' HO215.out).2.2 | (with_reducible refine c1_ ?_ _) | (with_reducible refine c2_ ?_ _) | (with_reducible refine c3_ ?_))); (case side4 => exact (Kd.R_reads' HO215.out).2.1); (case side5 => repeat (first | exact (Kd.R_reads' HO220.out).2.2 | (with_reducible refine c1_ ?_ _) | (with_reducible refine c2_ ?_ _) | (with_reducible refine c3_ ?_))); (case side6 => exact (Kd.R_reads' HO220.out).2.1); rintro e w48 ⟨rfl, hb⟩; refine ⟨_, rfl, ?_⟩; have n0_ := am_ (Kd.R_below (by (with_reducible repeat (first | apply r1_ | apply r2_ | apply r3_)); exact HO212.out) hb); have n1_ := am_ (Kd.R_below (by (with_reducible repeat (first | apply r1_ | apply r2_ | apply r3_)); exact HO215.out) hb); have n2_ := am_ (Kd.R_below (by (with_reducible repeat (first | apply r1_ | apply r2_ | apply r3_)); exact HO220.out) hb); have n3_ := am_ (Kd.R_below (by (with_reducible repeat (first | apply r1_ | apply r2_ | apply r3_)); exact HO224.out) hb); have n4_ := am_ (kb_ (g := gb221) (o := .cells #[.int .i64 t208, .int .i64 t209, .slice Ao31 t210.length co31, .slice Ao32 t213.length co32, .int .i64 t216, .string t217, .slice Ao33 t218.length co33] 26 (0, 0)) (by (with_reducible repeat (first | refine k2_ ?_ _ | refine k3_ ?_ | refine k1_ ?_ _)); exact BK221.out) hb); have n5_ := am_ (bt_ (by repeat (with_reducible first | exact HB.out | apply p3_ | apply p1_ | apply p2_ | refine bs_ ?_ GE221.out)) hb); clear HO212; clear HO215; clear HO220; clear HO224; clear BK221; clear HB; have HO212 := n0_; have HO215 := n1_; have HO220 := n2_; have HO224 := n3_; have BK221 := n4_; have HB := n5_; clear n0_ n1_ n2_ n3_ n4_ n5_; (try clear hb); have hcz49_0 : w48.cell? ⟨gb221, 0, none⟩ = some (.int .i64 t208) := (bc_ BK221.out 0).trans rfl; have hcz49_1 : w48.cell? ⟨gb221, 1, none⟩ = some (.int .i64 t209) := (bc_ BK221.out 1).trans rfl; have hcz49_2 : w48.cell? ⟨gb221, 2, none⟩ = some (.slice Ao31 t210.length co31) := (bc_ BK221.out 2).trans rfl; have hcz49_3 : w48.cell? ⟨gb221, 3, none⟩ = some (.slice Ao32 t213.length co32) := (bc_ BK221.out 3).trans rfl; have hcz49_4 : w48.cell? ⟨gb221, 4, none⟩ = some (.int .i64 t216) := (bc_ BK221.out 4).trans rfl; have hcz49_5 : w48.cell? ⟨gb221, 5, none⟩ = some (.string t217) := (bc_ BK221.out 5).trans rfl; have hcz49_6 : w48.cell? ⟨gb221, 6, none⟩ = some (.slice Ao33 t218.length co33) := (bc_ BK221.out 6).trans rfl; have hfz49_0 := bf_ BK221.out 0; have hfz49_1 := bf_ BK221.out 1; have hfz49_2 := bf_ BK221.out 2; have hfz49_3 := bf_ BK221.out 3; have hfz49_4 := bf_ BK221.out 4; have hfz49_5 := bf_ BK221.out 5; have hfz49_6 := bf_ BK221.out 6) | (go_at_call 33; (with_reducible refine (regis_Full_c.calls t208 t209 _ _ t210 _ _ t213 t216 t217 _ _ t218 (⟨#[120, 46, 112, 99, 46, 108, 97, 110]⟩ : ByteArray) t236 _ ?side1 ?side2 ?side3 ?side4 ?side5 ?side6 A9.out).mono ?_); (case side1 => repeat (first | exact (Kd.R_reads' HO212.out).2.2 | (with_reducible refine c1_ ?_ _) | (with_reducible refine c2_ ?_ _) | (with_reducible refine c3_ ?_))); (case side2 => exact (Kd.R_reads' HO212.out).2.1); (case side3 => repeat (first | exact (Kd.R_reads' HO215.out).2.2 | (with_reducible refine c1_ ?_ _) | (with_reducible refine c2_ ?_ _) | (with_reducible refine c3_ ?_))); (case side4 => exact (Kd.R_reads' HO215.out).2.1); (case side5 => repeat (first | exact (Kd.R_reads' HO220.out).2.2 | (with_reducible refine c1_ ?_ _) | (with_reducible refine c2_ ?_ _) | (with_reducible refine c3_ ?_))); (case side6 => exact (Kd.R_reads' HO220.out).2.1); rintro e w50 ⟨rfl, hb⟩; have n0_ := am_ (Kd.R_below (by (with_reducible repeat (first | apply r1_ | apply r2_ | apply r3_)); exact HO212.out) hb); have n1_ := am_ (Kd.R_below (by (with_reducible repeat (first | apply r1_ | apply r2_ | apply r3_)); exact HO215.out) hb); have n2_ := am_ (Kd.R_below (by (with_reducible repeat (first | apply r1_ | apply r2_ | apply r3_)); exact HO220.out) hb); have n3_ := am_ (Kd.R_below (by (with_reducible repeat (first | apply r1_ | apply r2_ | apply r3_)); exact HO224.out) hb); have n4_ := am_ (kb_ (g := gb221) (o := .cells #[.int .i64 t208, .int .i64 t209, .slice Ao31 t210.length co31, .slice Ao32 t213.length co32, .int .i64 t216, .string t217, .slice Ao33 t218.length co33] 26 (0, 0)) (by (with_reducible repeat (first | refine k2_ ?_ _ | refine k3_ ?_ | refine k1_ ?_ _)); exact BK221.out) hb); have n5_ := am_ (bt_ (by repeat (with_reducible first | exact HB.out | apply p3_ | apply p1_ | apply p2_ | refine bs_ ?_ GE221.out)) hb); clear HO212; clear HO215; clear HO220; clear HO224; clear BK221; clear HB; have HO212 := n0_; have HO215 := n1_; have HO220 := n2_; have HO224 := n3_; have BK221 := n4_; have HB := n5_; clear n0_ n1_ n2_ n3_ n4_ n5_; (try clear hb); have hcz51_0 : w50.cell? ⟨gb221, 0, none⟩ = some (.int .i64 t208) := (bc_ BK221.out 0).trans rfl; have hcz51_1 : w50.cell? ⟨gb221, 1, none⟩ = some (.int .i64 t209) := (bc_ BK221.out 1).trans rfl; have hcz51_2 : w50.cell? ⟨gb221, 2, none⟩ = some (.slice Ao31 t210.length co31) := (bc_ BK221.out 2).trans rfl; have hcz51_3 : w50.cell? ⟨gb221, 3, none⟩ = some (.slice Ao32 t213.length co32) := (bc_ BK221.out 3).trans rfl; have hcz51_4 : w50.cell? ⟨gb221, 4, none⟩ = some (.int .i64 t216) := (bc_ BK221.out 4).trans rfl; have hcz51_5 : w50.cell? ⟨gb221, 5, none⟩ = some (.string t217) := (bc_ BK221.out 5).trans rfl; have hcz51_6 : w50.cell? ⟨gb221, 6, none⟩ = some (.slice Ao33 t218.length co33) := (bc_ BK221.out 6).trans rfl; have hfz51_0 := bf_ BK221.out 0; have hfz51_1 := bf_ BK221.out 1; have hfz51_2 := bf_ BK221.out 2; have hfz51_3 := bf_ BK221.out 3; have hfz51_4 := bf_ BK221.out 4; have hfz51_5 := bf_ BK221.out 5; have hfz51_6 := bf_ BK221.out 6) | (go_at_call 33; (with_reducible refine (regis_Full_c.calls t208 t209 _ _ t210 _ _ t213 t216 t217 _ _ t218 (⟨#[97, 46, 98]⟩ : ByteArray) t237 _ ?side1 ?side2 ?side3 ?side4 ?side5 ?side6 A11.out).mono ?_); (case side1 => repeat (first | exact (Kd.R_reads' HO212.out).2.2 | (with_reducible refine c1_ ?_ _) | (with_reducible refine c2_ ?_ _) | (with_reducible refine c3_ ?_))); (case side2 => exact (Kd.R_reads' HO212.out).2.1); (case side3 => repeat (first | exact (Kd.R_reads' HO215.out).2.2 | (with_reducible refine c1_ ?_ _) | (with_reducible refine c2_ ?_ _) | (with_reducible refine c3_ ?_))); (case side4 => exact (Kd.R_reads' HO215.out).2.1); (case side5 => repeat (first | exact (Kd.R_reads' HO220.out).2.2 | (with_reducible refine c1_ ?_ _) | (with_reducible refine c2_ ?_ _) | (with_reducible refine c3_ ?_))); (case side6 => exact (Kd.R_reads' HO220.out).2.1); rintro e w52 ⟨rfl, hb⟩; have n0_ := am_ (Kd.R_below (by (with_reducible repeat (first | apply r1_ | apply r2_ | apply r3_)); exact HO212.out) hb); have n1_ := am_ (Kd.R_below (by (with_reducible repeat (first | apply r1_ | apply r2_ | apply r3_)); exact HO215.out) hb); have n2_ := am_ (Kd.R_below (by (with_reducible repeat (first | apply r1_ | apply r2_ | apply r3_)); exact HO220.out) hb); have n3_ := am_ (Kd.R_below (by (with_reducible repeat (first | apply r1_ | apply r2_ | apply r3_)); exact HO224.out) hb); have n4_ := am_ (kb_ (g := gb221) (o := .cells #[.int .i64 t208, .int .i64 t209, .slice Ao31 t210.length co31, .slice Ao32 t213.length co32, .int .i64 t216, .string t217, .slice Ao33 t218.length co33] 26 (0, 0)) (by (with_reducible repeat (first | refine k2_ ?_ _ | refine k3_ ?_ | refine k1_ ?_ _)); exact BK221.out) hb); have n5_ := am_ (bt_ (by repeat (with_reducible first | exact HB.out | apply p3_ | apply p1_ | apply p2_ | refine bs_ ?_ GE221.out)) hb); clear HO212; clear HO215; clear HO220; clear HO224; clear BK221; clear HB; have HO212 := n0_; have HO215 := n1_; have HO220 := n2_; have HO224 := n3_; have BK221 := n4_; have HB := n5_; clear n0_ n1_ n2_ n3_ n4_ n5_; (try clear hb); have hcz53_0 : w52.cell? ⟨gb221, 0, none⟩ = some (.int .i64 t208) := (bc_ BK221.out 0).trans rfl; have hcz53_1 : w52.cell? ⟨gb221, 1, none⟩ = some (.int .i64 t209) := (bc_ BK221.out 1).trans rfl; have hcz53_2 : w52.cell? ⟨gb221, 2, none⟩ = some (.slice Ao31 t210.length co31) := (bc_ BK221.out 2).trans rfl; have hcz53_3 : w52.cell? ⟨gb221, 3, none⟩ = some (.slice Ao32 t213.length co32) := (bc_ BK221.out 3).trans rfl; have hcz53_4 : w52.cell? ⟨gb221, 4, none⟩ = some (.int .i64 t216) := (bc_ BK221.out 4).trans rfl; have hcz53_5 : w52.cell? ⟨gb221, 5, none⟩ = some (.string t217) := (bc_ BK221.out 5).trans rfl; have hcz53_6 : w52.cell? ⟨gb221, 6, none⟩ = some (.slice Ao33 t218.length co33) := (bc_ BK221.out 6).trans rfl; have hfz53_0 := bf_ BK221.out 0; have hfz53_1 := bf_ BK221.out 1; have hfz53_2 := bf_ BK221.out 2; have hfz53_3 := bf_ BK221.out 3; have hfz53_4 := bf_ BK221.out 4; have hfz53_5 := bf_ BK221.out 5; have hfz53_6 := bf_ BK221.out 6) | (go_at_call 33; (with_reducible refine (regis_Full_c.calls t208 t209 _ _ t210 _ _ t213 t216 t217 _ _ t218 (⟨#[]⟩ : ByteArray) t238 _ ?side1 ?side2 ?side3 ?side4 ?side5 ?side6 A13.out).mono ?_); (case side1 => repeat (first | exact (Kd.R_reads' HO212.out).2.2 | (with_reducible refine c1_ ?_ _) | (with_reducible refine c2_ ?_ _) | (with_reducible refine c3_ ?_))); (case side2 => exact (Kd.R_reads' HO212.out).2.1); (case side3 => repeat (first | exact (Kd.R_reads' HO215.out).2.2 | (with_reducible refine c1_ ?_ _) | (with_reducible refine c2_ ?_ _) | (with_reducible refine c3_ ?_))); (case side4 => exact (Kd.R_reads' HO215.out).2.1); (case side5 => repeat (first | exact (Kd.R_reads' HO220.out).2.2 | (with_reducible refine c1_ ?_ _) | (with_reducible refine c2_ ?_ _) | (with_reducible refine c3_ ?_))); (case side6 => exact (Kd.R_reads' HO220.out).2.1); rintro e w54 ⟨rfl, hb⟩; have n0_ := am_ (Kd.R_below (by (with_reducible repeat (first | apply r1_ | apply r2_ | apply r3_)); exact HO212.out) hb); have n1_ := am_ (Kd.R_below (by (with_reducible repeat (first | apply r1_ | apply r2_ | apply r3_)); exact HO215.out) hb); have n2_ := am_ (Kd.R_below (by (with_reducible repeat (first | apply r1_ | apply r2_ | apply r3_)); exact HO220.out) hb); have n3_ := am_ (Kd.R_below (by (with_reducible repeat (first | apply r1_ | apply r2_ | apply r3_)); exact HO224.out) hb); have n4_ := am_ (kb_ (g := gb221) (o := .cells #[.int .i64 t208, .int .i64 t209, .slice Ao31 t210.length co31, .slice Ao32 t213.length co32, .int .i64 t216, .string t217, .slice Ao33 t218.length co33] 26 (0, 0)) (by (with_reducible repeat (first | refine k2_ ?_ _ | refine k3_ ?_ | refine k1_ ?_ _)); exact BK221.out) hb); have n5_ := am_ (bt_ (by repeat (with_reducible first | exact HB.out | apply p3_ | apply p1_ | apply p2_ | refine bs_ ?_ GE221.out)) hb); clear HO212; clear HO215; clear HO220; clear HO224; clear BK221; clear HB; have HO212 := n0_; have HO215 := n1_; have HO220 := n2_; have HO224 := n3_; have BK221 := n4_; have HB := n5_; clear n0_ n1_ n2_ n3_ n4_ n5_; (try clear hb)) | (go_at_call 24; (with_reducible refine (pinfoldlaw0_Num.calls t226 t239 _ A16.out).mono ?_); rintro e w' ⟨rfl, ⟨nd, rfl⟩⟩) | (go_at_call 24; (with_reducible refine (pinfoldlaw0_Num.calls t228 t240 _ A19.out).mono ?_); rintro e w' ⟨rfl, ⟨nd, rfl⟩⟩) | (go_at_call 24; (with_reducible refine (pinfoldlaw0_Num.calls t230 t241 _ A22.out).mono ?_); rintro e w' ⟨rfl, ⟨nd, rfl⟩⟩) | (go_at_call 24; (with_reducible refine (pinfoldlaw0_Num.calls t232 t242 _ A25.out).mono ?_); rintro e w' ⟨rfl, ⟨nd, rfl⟩⟩) | (go_at_call 24; (with_reducible refine (pinfoldlaw0_Num.calls t234 t243 _ A27.out).mono ?_); rintro e w' ⟨rfl, ⟨nd, rfl⟩⟩))
   go_ret
   exact ⟨by first | rfl | (simp [errW_none, errW_some] <;> rfl) | (simp [*, errW_none, errW_some] <;> rfl) | (simp only [str_ne_]; rfl) | (simp only [str_eq_]; rfl), by repeat (with_reducible first | exact HB.out | apply p3_ | apply p1_ | apply p2_ | refine bs_ ?_ GE221.out)⟩
  replace c21 := e3_ c21
  subst c21
  have H1 : (none) = some r := by rw [if_neg (show ¬ (false = true) by decide)] at H; exact H
  clear H
  have H := H1
  clear H1
  exact absurd H (by simp)
 replace c18 := e3_ c18
 subst c18
 have H1 : (none) = some r := by rw [if_neg (show ¬ (false = true) by decide)] at H; exact H
 clear H
 have H := H1
 clear H1
 exact absurd H (by simp)

/-! ### pinfoldlaw16_Regises: function 8 -/
def pinfoldlaw16_Regises.f (k : Nat) (a0_0 : Int) (a0_1 : Int) (l0_2 : List Int) (l0_3 : List (S47)) (a0_4 : Int) (a0_5 : ByteArray) (l0_6 : List (S49)) (l1 : List (S62)) (a2 : Int) (a3 : ByteArray) (a4 : ByteArray) : Option (Bool) := (pinfoldlaw0_CopyConfig.f a0_0 a0_1 l0_2 l0_3 a0_4 a0_5 l0_6).bind fun bt245 => ((pinfoldlaw0_LendLeases.f l1).bind fun t258 => ((regis_Free.f bt245.1 bt245.2.1 bt245.2.2.1 bt245.2.2.2.1 bt245.2.2.2.2.1 bt245.2.2.2.2.2.1 bt245.2.2.2.2.2.2 t258 a2 a3 a4).bind fun bt262 => ((pinfoldref11_FreeName.f a0_0 a0_1 l0_2 l0_3 a0_4 a0_5 l0_6 l1 a2 a3 a4).bind fun bt264 => (if (bt262.1 == bt264.1) = true then ((pinfoldlaw0_Num.f bt262.2).bind fun t266 => (if t266 = bt264.2 then ((regis_Full_c.f bt245.1 bt245.2.1 bt245.2.2.1 bt245.2.2.2.1 bt245.2.2.2.2.1 bt245.2.2.2.2.2.1 bt245.2.2.2.2.2.2 a4).bind fun t267 => ((pinfoldref11_Full_c.f a0_0 a0_1 l0_2 l0_3 a0_4 a0_5 l0_6 a4).bind fun t268 => (if t267.toList = t268.toList then ((pinfoldlaw0_SameConfig.f k bt245.1 bt245.2.1 bt245.2.2.1 bt245.2.2.2.1 bt245.2.2.2.2.1 bt245.2.2.2.2.2.1 bt245.2.2.2.2.2.2 a0_0 a0_1 l0_2 l0_3 a0_4 a0_5 l0_6).bind fun t269 => (if t269 = true then ((pinfoldlaw0_KeptLeases.f k t258 l1).bind fun t270 => (if t270 = true then ((pinfoldlaw16_awake.f).bind fun t271 => (some t271)) else (none))) else (none))) else (none)))) else (none))) else (none)))))
theorem pinfoldlaw16_Regises.mono : ∀ a0 a1 a2 a3 a4 a5 a6 a7 a8 a9 a10 k, LeO (pinfoldlaw16_Regises.f k a0 a1 a2 a3 a4 a5 a6 a7 a8 a9 a10) (pinfoldlaw16_Regises.f (k + 1) a0 a1 a2 a3 a4 a5 a6 a7 a8 a9 a10) := by
 intro a0 a1 a2 a3 a4 a5 a6 a7 a8 a9 a10 k
 unfold pinfoldlaw16_Regises.f
 repeat' first
   | (with_reducible exact pinfoldlaw0_KeptLeases.mono _ _ _)
   | (with_reducible exact pinfoldlaw0_SameConfig.mono _ _ _ _ _ _ _ _ _ _ _ _ _ _ _)
   | (with_reducible exact LeO.refl _)
   | (with_reducible exact LeO.none _)
   | (with_reducible refine LeO.ite ?_ ?_)
   | (with_reducible refine LeO.bind ?_ (fun _ => ?_))
   | exact pinfoldlaw0_KeptLeases.mono _ _ _
   | exact pinfoldlaw0_SameConfig.mono _ _ _ _ _ _ _ _ _ _ _ _ _ _ _
   | exact LeO.none _
   | refine LeO.ite ?_ ?_
   | refine LeO.bind ?_ (fun _ => ?_)
def pinfoldlaw16_Regises.T4 : Bool × List (List Nat × List Nat) := (true, [([], []), ([], []), ([0, 1], [0, 1]), ([2], [2]), ([3], [3]), ([4, 3, 3], [3, 4]), ([3], [3]), ([5, 6, 3], [3, 5, 6]), ([3, 7], [3, 7]), ([8, 5], [8]), ([9], [9]), ([9], [9]), ([10, 11, 9, 9], [9, 10, 11]), ([9], [9]), ([9], [9]), ([13, 14, 12, 9], [9, 13, 14]), ([12, 15, 9], [9, 12, 15]), ([9, 16], [9, 16]), ([17, 15], [17]), ([18], [18]), ([18], [18]), ([19, 20, 18, 18], [18, 19, 20]), ([18, 21], [18, 21]), ([22, 21], [22]), ([23], [23]), ([23], [23]), ([24, 25, 23, 23], [23, 24, 25]), ([23, 26], [23, 26]), ([27, 26], [27]), ([28, 28], [28]), ([28, 29], [28, 29]), ([30, 29, 0, 1, 2, 3, 4, 5, 6, 7, 8, 9, 10, 11, 12, 13, 14, 15, 16, 17, 18, 19, 20, 21, 22, 23, 24, 25, 26, 27, 28, 29, 30], [30])])
def pinfoldlaw16_Regises.B4 : List Nat := [0, 0, 3, 7, 15, 31, 15, 127, 255, 511, 1023, 1023, 4095, 1023, 1023, 32767, 65535, 131071, 262143, 524287, 524287, 2097151, 4194303, 8388607, 16777215, 16777215, 67108863, 134217727, 268435455, 536870911, 1073741823, 2147483647]
theorem pinfoldlaw16_Regises.tab4 : rtab .any (opsOf Tryd.f8 4) = pinfoldlaw16_Regises.T4 := by kernel_rfl
theorem pinfoldlaw16_Regises.bits4 : waitsOk pinfoldlaw16_Regises.T4.2 pinfoldlaw16_Regises.B4 = true := by kernel_rfl
set_option maxHeartbeats 8000000 in
set_option maxRecDepth 100000 in
theorem pinfoldlaw16_Regises.calls (k : Nat) (a0_0 : Int) (a0_1 : Int) (A0_2 : Option Addr) (c0_2 : Nat) (l0_2 : List Int) (A0_3 : Option Addr) (c0_3 : Nat) (l0_3 : List (S47)) (a0_4 : Int) (a0_5 : ByteArray) (A0_6 : Option Addr) (c0_6 : Nat) (l0_6 : List (S49)) (A1 : Option Addr) (c1 : Nat) (l1 : List (S62)) (a2 : Int) (a3 : ByteArray) (a4 : ByteArray) (r : Bool) (w : World) (hr0_2 : Kd.C (Kd.int .i64) w A0_2 l0_2.length l0_2) (hc0_2 : l0_2.length ≤ c0_2) (hr0_3 : Kd.C k47 w A0_3 l0_3.length l0_3) (hc0_3 : l0_3.length ≤ c0_3) (hr0_6 : Kd.C k49 w A0_6 l0_6.length l0_6) (hc0_6 : l0_6.length ≤ c0_6) (hr1 : Kd.C k62 w A1 l1.length l1) (hc1 : l1.length ≤ c1) (h : pinfoldlaw16_Regises.f k a0_0 a0_1 l0_2 l0_3 a0_4 a0_5 l0_6 l1 a2 a3 a4 = some r) :
  Calls Tryd.prog 8 #[.agg #[.int .i64 a0_0, .int .i64 a0_1, .slice A0_2 l0_2.length c0_2, .slice A0_3 l0_3.length c0_3, .int .i64 a0_4, .string a0_5, .slice A0_6 l0_6.length c0_6], .slice A1 l1.length c1, .int .i64 a2, .string a3, .string a4] w fun e w' => e = .returned (.bool r) ∧ Below w.heap.size w w' := by
 have hu26 := Tryd.underlying26
 have HR0_2 := am_ hr0_2
 have HC0_2 := am_ hc0_2
 clear hr0_2 hc0_2
 have HR0_3 := am_ hr0_3
 have HC0_3 := am_ hc0_3
 clear hr0_3 hc0_3
 have HR0_6 := am_ hr0_6
 have HC0_6 := am_ hc0_6
 clear hr0_6 hc0_6
 have HR1 := am_ hr1
 have HC1 := am_ hc1
 clear hr1 hc1
 have HB := am_ (Below.refl w.heap.size w)
 have H : ((pinfoldlaw0_CopyConfig.f a0_0 a0_1 l0_2 l0_3 a0_4 a0_5 l0_6).bind fun bt245 => ((pinfoldlaw0_LendLeases.f l1).bind fun t258 => ((regis_Free.f bt245.1 bt245.2.1 bt245.2.2.1 bt245.2.2.2.1 bt245.2.2.2.2.1 bt245.2.2.2.2.2.1 bt245.2.2.2.2.2.2 t258 a2 a3 a4).bind fun bt262 => ((pinfoldref11_FreeName.f a0_0 a0_1 l0_2 l0_3 a0_4 a0_5 l0_6 l1 a2 a3 a4).bind fun bt264 => (if (bt262.1 == bt264.1) = true then ((pinfoldlaw0_Num.f bt262.2).bind fun t266 => (if t266 = bt264.2 then ((regis_Full_c.f bt245.1 bt245.2.1 bt245.2.2.1 bt245.2.2.2.1 bt245.2.2.2.2.1 bt245.2.2.2.2.2.1 bt245.2.2.2.2.2.2 a4).bind fun t267 => ((pinfoldref11_Full_c.f a0_0 a0_1 l0_2 l0_3 a0_4 a0_5 l0_6 a4).bind fun t268 => (if t267.toList = t268.toList then ((pinfoldlaw0_SameConfig.f k bt245.1 bt245.2.1 bt245.2.2.1 bt245.2.2.2.1 bt245.2.2.2.2.1 bt245.2.2.2.2.2.1 bt245.2.2.2.2.2.2 a0_0 a0_1 l0_2 l0_3 a0_4 a0_5 l0_6).bind fun t269 => (if t269 = true then ((pinfoldlaw0_KeptLeases.f k t258 l1).bind fun t270 => (if t270 = true then ((pinfoldlaw16_awake.f).bind fun t271 => (some t271)) else (none))) else (none))) else (none)))) else (none))) else (none)))))) = some r := h
 clear h
 replace H := e4_ H
 obtain ⟨⟨t245, t246, t247, t250, t253, t254, t255⟩, A60, H⟩ := H
 replace H : ((pinfoldlaw0_LendLeases.f l1).bind fun t258 => ((regis_Free.f t245 t246 t247 t250 t253 t254 t255 t258 a2 a3 a4).bind fun bt262 => ((pinfoldref11_FreeName.f a0_0 a0_1 l0_2 l0_3 a0_4 a0_5 l0_6 l1 a2 a3 a4).bind fun bt264 => (if (bt262.1 == bt264.1) = true then ((pinfoldlaw0_Num.f bt262.2).bind fun t266 => (if t266 = bt264.2 then ((regis_Full_c.f t245 t246 t247 t250 t253 t254 t255 a4).bind fun t267 => ((pinfoldref11_Full_c.f a0_0 a0_1 l0_2 l0_3 a0_4 a0_5 l0_6 a4).bind fun t268 => (if t267.toList = t268.toList then ((pinfoldlaw0_SameConfig.f k t245 t246 t247 t250 t253 t254 t255 a0_0 a0_1 l0_2 l0_3 a0_4 a0_5 l0_6).bind fun t269 => (if t269 = true then ((pinfoldlaw0_KeptLeases.f k t258 l1).bind fun t270 => (if t270 = true then ((pinfoldlaw16_awake.f).bind fun t271 => (some t271)) else (none))) else (none))) else (none)))) else (none))) else (none))))) = some r := H
 have A6 := am_ A60
 clear A60
 replace H := e4_ H
 obtain ⟨t258, A70, H⟩ := H
 replace H : ((regis_Free.f t245 t246 t247 t250 t253 t254 t255 t258 a2 a3 a4).bind fun bt262 => ((pinfoldref11_FreeName.f a0_0 a0_1 l0_2 l0_3 a0_4 a0_5 l0_6 l1 a2 a3 a4).bind fun bt264 => (if (bt262.1 == bt264.1) = true then ((pinfoldlaw0_Num.f bt262.2).bind fun t266 => (if t266 = bt264.2 then ((regis_Full_c.f t245 t246 t247 t250 t253 t254 t255 a4).bind fun t267 => ((pinfoldref11_Full_c.f a0_0 a0_1 l0_2 l0_3 a0_4 a0_5 l0_6 a4).bind fun t268 => (if t267.toList = t268.toList then ((pinfoldlaw0_SameConfig.f k t245 t246 t247 t250 t253 t254 t255 a0_0 a0_1 l0_2 l0_3 a0_4 a0_5 l0_6).bind fun t269 => (if t269 = true then ((pinfoldlaw0_KeptLeases.f k t258 l1).bind fun t270 => (if t270 = true then ((pinfoldlaw16_awake.f).bind fun t271 => (some t271)) else (none))) else (none))) else (none)))) else (none))) else (none)))) = some r := H
 have A7 := am_ A70
 clear A70
 replace H := e4_ H
 obtain ⟨⟨t262, t263⟩, A80, H⟩ := H
 replace H : ((pinfoldref11_FreeName.f a0_0 a0_1 l0_2 l0_3 a0_4 a0_5 l0_6 l1 a2 a3 a4).bind fun bt264 => (if (t262 == bt264.1) = true then ((pinfoldlaw0_Num.f t263).bind fun t266 => (if t266 = bt264.2 then ((regis_Full_c.f t245 t246 t247 t250 t253 t254 t255 a4).bind fun t267 => ((pinfoldref11_Full_c.f a0_0 a0_1 l0_2 l0_3 a0_4 a0_5 l0_6 a4).bind fun t268 => (if t267.toList = t268.toList then ((pinfoldlaw0_SameConfig.f k t245 t246 t247 t250 t253 t254 t255 a0_0 a0_1 l0_2 l0_3 a0_4 a0_5 l0_6).bind fun t269 => (if t269 = true then ((pinfoldlaw0_KeptLeases.f k t258 l1).bind fun t270 => (if t270 = true then ((pinfoldlaw16_awake.f).bind fun t271 => (some t271)) else (none))) else (none))) else (none)))) else (none))) else (none))) = some r := H
 have A8 := am_ A80
 clear A80
 replace H := e4_ H
 obtain ⟨⟨t264, t265⟩, A90, H⟩ := H
 replace H : (if (t262 == t264) = true then ((pinfoldlaw0_Num.f t263).bind fun t266 => (if t266 = t265 then ((regis_Full_c.f t245 t246 t247 t250 t253 t254 t255 a4).bind fun t267 => ((pinfoldref11_Full_c.f a0_0 a0_1 l0_2 l0_3 a0_4 a0_5 l0_6 a4).bind fun t268 => (if t267.toList = t268.toList then ((pinfoldlaw0_SameConfig.f k t245 t246 t247 t250 t253 t254 t255 a0_0 a0_1 l0_2 l0_3 a0_4 a0_5 l0_6).bind fun t269 => (if t269 = true then ((pinfoldlaw0_KeptLeases.f k t258 l1).bind fun t270 => (if t270 = true then ((pinfoldlaw16_awake.f).bind fun t271 => (some t271)) else (none))) else (none))) else (none)))) else (none))) else (none)) = some r := H
 have A9 := am_ A90
 clear A90
 by_cases c10 : (t262 == t264) = true
 ·rw [if_pos c10] at H
  have c10b0 : (t262 == t264) = true := c10
  (try (have c10b1 : decide (t262 = t264) = true := by simpa using c10))
  (try (have c10b2 : (t262 == t264) = true := by simpa using c10))
  clear c10
  replace H := e4_ H
  obtain ⟨t266, A110, H⟩ := H
  replace H : (if t266 = t265 then ((regis_Full_c.f t245 t246 t247 t250 t253 t254 t255 a4).bind fun t267 => ((pinfoldref11_Full_c.f a0_0 a0_1 l0_2 l0_3 a0_4 a0_5 l0_6 a4).bind fun t268 => (if t267.toList = t268.toList then ((pinfoldlaw0_SameConfig.f k t245 t246 t247 t250 t253 t254 t255 a0_0 a0_1 l0_2 l0_3 a0_4 a0_5 l0_6).bind fun t269 => (if t269 = true then ((pinfoldlaw0_KeptLeases.f k t258 l1).bind fun t270 => (if t270 = true then ((pinfoldlaw16_awake.f).bind fun t271 => (some t271)) else (none))) else (none))) else (none)))) else (none)) = some r := H
  have A11 := am_ A110
  clear A110
  by_cases c12 : t266 = t265
  ·rw [if_pos c12] at H
   have c12b0 : (t266 == t265) = true := beq_iff_eq.mpr c12
   have c12b1 : (t266 != t265) = false := e1_ c12
   clear c12
   replace H := e4_ H
   obtain ⟨t267, A130, H⟩ := H
   replace H : ((pinfoldref11_Full_c.f a0_0 a0_1 l0_2 l0_3 a0_4 a0_5 l0_6 a4).bind fun t268 => (if t267.toList = t268.toList then ((pinfoldlaw0_SameConfig.f k t245 t246 t247 t250 t253 t254 t255 a0_0 a0_1 l0_2 l0_3 a0_4 a0_5 l0_6).bind fun t269 => (if t269 = true then ((pinfoldlaw0_KeptLeases.f k t258 l1).bind fun t270 => (if t270 = true then ((pinfoldlaw16_awake.f).bind fun t271 => (some t271)) else (none))) else (none))) else (none))) = some r := H
   have A13 := am_ A130
   clear A130
   replace H := e4_ H
   obtain ⟨t268, A140, H⟩ := H
   replace H : (if t267.toList = t268.toList then ((pinfoldlaw0_SameConfig.f k t245 t246 t247 t250 t253 t254 t255 a0_0 a0_1 l0_2 l0_3 a0_4 a0_5 l0_6).bind fun t269 => (if t269 = true then ((pinfoldlaw0_KeptLeases.f k t258 l1).bind fun t270 => (if t270 = true then ((pinfoldlaw16_awake.f).bind fun t271 => (some t271)) else (none))) else (none))) else (none)) = some r := H
   have A14 := am_ A140
   clear A140
   by_cases c15 : t267.toList = t268.toList
   ·rw [if_pos c15] at H
    have c15b0 : (t267.toList == t268.toList) = true := beq_iff_eq.mpr c15
    have c15b1 : (t267.toList != t268.toList) = false := e1_ c15
    clear c15
    replace H := e4_ H
    obtain ⟨t269, A160, H⟩ := H
    replace H : (if t269 = true then ((pinfoldlaw0_KeptLeases.f k t258 l1).bind fun t270 => (if t270 = true then ((pinfoldlaw16_awake.f).bind fun t271 => (some t271)) else (none))) else (none)) = some r := H
    have A16 := am_ A160
    clear A160
    by_cases c17 : t269 = true
    ·subst c17
     have H1 : ((pinfoldlaw0_KeptLeases.f k t258 l1).bind fun t270 => (if t270 = true then ((pinfoldlaw16_awake.f).bind fun t271 => (some t271)) else (none))) = some r := by rw [if_pos rfl] at H; exact H
     clear H
     have H := H1
     clear H1
     replace H := e4_ H
     obtain ⟨t270, A180, H⟩ := H
     replace H : (if t270 = true then ((pinfoldlaw16_awake.f).bind fun t271 => (some t271)) else (none)) = some r := H
     have A18 := am_ A180
     clear A180
     by_cases c19 : t270 = true
     ·subst c19
      have H1 : ((pinfoldlaw16_awake.f).bind fun t271 => (some t271)) = some r := by rw [if_pos rfl] at H; exact H
      clear H
      have H := H1
      clear H1
      replace H := e4_ H
      obtain ⟨t271, A200, H⟩ := H
      replace H : (some t271) = some r := H
      have A20 := am_ A200
      clear A200
      obtain rfl := e5_ H
      go_enter Tryd.func8, Tryd.ntmps8
      try go_wp2_with (first | ((with_reducible refine gate_dst (N := 5) rfl ?_); refine box_event ?hg (N := 5) ?hd (cs := #[.int .i64 a0_0, .int .i64 a0_1, .slice A0_2 l0_2.length c0_2, .slice A0_3 l0_3.length c0_3, .int .i64 a0_4, .string a0_5, .slice A0_6 l0_6.length c0_6]) (t := 26) ?hr ?_; (case hd => rfl); (case hg => rfl); (case hr => first | (go_simp; done) | (go_simp; rfl)); intro gb244 hg w21 hbox hb; have n0_ := am_ (bt_ (by repeat (with_reducible first | exact HB.out | apply p3_ | apply p1_ | apply p2_)) hb); have n1_ := am_ (hbox); have n2_ := am_ ((by rw [hg]; exact (bz_ (by repeat (with_reducible first | exact HB.out | apply p3_ | apply p1_ | apply p2_))) : w.heap.size ≤ gb244)); have n3_ := am_ ((by rw [hg]; exact (bz_ (by repeat (with_reducible first | exact HB.out | apply p3_ | apply p1_ | apply p2_))) : w.heap.size ≤ gb244)); clear HB; have HB := n0_; have BK244 := n1_; have GW244 := n2_; have GE244 := n3_; clear n0_ n1_ n2_ n3_; clear hb hbox hg; have hcz22_0 : w21.cell? ⟨gb244, 0, none⟩ = some (.int .i64 a0_0) := (bc_ BK244.out 0).trans rfl; have hcz22_1 : w21.cell? ⟨gb244, 1, none⟩ = some (.int .i64 a0_1) := (bc_ BK244.out 1).trans rfl; have hcz22_2 : w21.cell? ⟨gb244, 2, none⟩ = some (.slice A0_2 l0_2.length c0_2) := (bc_ BK244.out 2).trans rfl; have hcz22_3 : w21.cell? ⟨gb244, 3, none⟩ = some (.slice A0_3 l0_3.length c0_3) := (bc_ BK244.out 3).trans rfl; have hcz22_4 : w21.cell? ⟨gb244, 4, none⟩ = some (.int .i64 a0_4) := (bc_ BK244.out 4).trans rfl; have hcz22_5 : w21.cell? ⟨gb244, 5, none⟩ = some (.string a0_5) := (bc_ BK244.out 5).trans rfl; have hcz22_6 : w21.cell? ⟨gb244, 6, none⟩ = some (.slice A0_6 l0_6.length c0_6) := (bc_ BK244.out 6).trans rfl; have hfz22_0 := bf_ BK244.out 0; have hfz22_1 := bf_ BK244.out 1; have hfz22_2 := bf_ BK244.out 2; have hfz22_3 := bf_ BK244.out 3; have hfz22_4 := bf_ BK244.out 4; have hfz22_5 := bf_ BK244.out 5; have hfz22_6 := bf_ BK244.out 6) | ((with_reducible refine gate_callee (f := 13) rfl ?_); refine goesL_ (some 18) rfl rfl Tryd.func13 (by kernel_rfl) rfl #[.agg #[.int .i64 a0_0, .int .i64 a0_1, .slice A0_2 l0_2.length c0_2, .slice A0_3 l0_3.length c0_3, .int .i64 a0_4, .string a0_5, .slice A0_6 l0_6.length c0_6]] rfl (by (try simp only [List.map_toArray, List.map_cons, List.map_nil]); first | done | rfl | (simp only [List.length_drop, List.length_take]; rfl)) ?_; (with_reducible refine (pinfoldlaw0_CopyConfig.calls a0_0 a0_1 _ _ l0_2 _ _ l0_3 a0_4 a0_5 _ _ l0_6 t245 t246 t247 t250 t253 t254 t255 _ ?side1 ?side2 ?side3 ?side4 ?side5 ?side6 A6.out).mono ?_); (case side1 => repeat (first | exact (c4_ HR0_2.out HB.out) | (with_reducible refine c1_ ?_ _) | (with_reducible refine c2_ ?_ _) | (with_reducible refine c3_ ?_))); (case side2 => exact HC0_2.out); (case side3 => repeat (first | exact (c4_ HR0_3.out HB.out) | (with_reducible refine c1_ ?_ _) | (with_reducible refine c2_ ?_ _) | (with_reducible refine c3_ ?_))); (case side4 => exact HC0_3.out); (case side5 => repeat (first | exact (c4_ HR0_6.out HB.out) | (with_reducible refine c1_ ?_ _) | (with_reducible refine c2_ ?_ _) | (with_reducible refine c3_ ?_))); (case side6 => exact HC0_6.out); rintro e w23 ⟨v248, v251, v256, rfl, ho0, ho1, ho2, hb⟩; refine ⟨_, rfl, ?_⟩; have n0_ := am_ (Kd.R_lower ho0 (bz_ (by repeat (with_reducible first | exact HB.out | apply p3_ | apply p1_ | apply p2_ | refine bs_ ?_ GE244.out)))); have n1_ := am_ (Kd.R_lower ho1 (bz_ (by repeat (with_reducible first | exact HB.out | apply p3_ | apply p1_ | apply p2_ | refine bs_ ?_ GE244.out)))); have n2_ := am_ (Kd.R_lower ho2 (bz_ (by repeat (with_reducible first | exact HB.out | apply p3_ | apply p1_ | apply p2_ | refine bs_ ?_ GE244.out)))); have n3_ := am_ (kb_ (g := gb244) (o := .cells #[.int .i64 a0_0, .int .i64 a0_1, .slice A0_2 l0_2.length c0_2, .slice A0_3 l0_3.length c0_3, .int .i64 a0_4, .string a0_5, .slice A0_6 l0_6.length c0_6] 26 (0, 0)) (by (with_reducible repeat (first | refine k2_ ?_ _ | refine k3_ ?_ | refine k1_ ?_ _)); exact BK244.out) hb); have n4_ := am_ (bt_ (by repeat (with_reducible first | exact HB.out | apply p3_ | apply p1_ | apply p2_ | refine bs_ ?_ GE244.out)) hb); clear BK244; clear HB; have HO249 := n0_; have HO252 := n1_; have HO257 := n2_; have BK244 := n3_; have HB := n4_; clear n0_ n1_ n2_ n3_ n4_; (try clear hb); (try clear ho0); (try clear ho1); (try clear ho2)) | ((with_reducible refine gate_callee (f := 30) rfl ?_); refine goesL_ (some 20) rfl rfl Tryd.func30 (by kernel_rfl) rfl #[.slice A1 l1.length c1] rfl (by (try simp only [List.map_toArray, List.map_cons, List.map_nil]); first | done | rfl | (simp only [List.length_drop, List.length_take]; rfl)) ?_; (with_reducible refine (pinfoldlaw0_LendLeases.calls _ _ l1 t258 _ ?side1 ?side2 A7.out).mono ?_); (case side1 => repeat (first | exact (c4_ HR1.out HB.out) | (with_reducible refine c1_ ?_ _) | (with_reducible refine c2_ ?_ _) | (with_reducible refine c3_ ?_))); (case side2 => exact HC1.out); rintro e w24 ⟨Ao31, co31, rfl, ho0, hb⟩; refine ⟨_, rfl, ?_⟩; have n0_ := am_ (Kd.R_below (by (with_reducible repeat (first | apply r1_ | apply r2_ | apply r3_)); exact HO249.out) hb); have n1_ := am_ (Kd.R_below (by (with_reducible repeat (first | apply r1_ | apply r2_ | apply r3_)); exact HO252.out) hb); have n2_ := am_ (Kd.R_below (by (with_reducible repeat (first | apply r1_ | apply r2_ | apply r3_)); exact HO257.out) hb); have n3_ := am_ (Kd.R_lower ho0 (bz_ (by repeat (with_reducible first | exact HB.out | apply p3_ | apply p1_ | apply p2_ | refine bs_ ?_ GE244.out)))); have n4_ := am_ (kb_ (g := gb244) (o := .cells #[.int .i64 a0_0, .int .i64 a0_1, .slice A0_2 l0_2.length c0_2, .slice A0_3 l0_3.length c0_3, .int .i64 a0_4, .string a0_5, .slice A0_6 l0_6.length c0_6] 26 (0, 0)) (by (with_reducible repeat (first | refine k2_ ?_ _ | refine k3_ ?_ | refine k1_ ?_ _)); exact BK244.out) hb); have n5_ := am_ (bt_ (by repeat (with_reducible first | exact HB.out | apply p3_ | apply p1_ | apply p2_ | refine bs_ ?_ GE244.out)) hb); clear HO249; clear HO252; clear HO257; clear BK244; clear HB; have HO249 := n0_; have HO252 := n1_; have HO257 := n2_; have HO260 := n3_; have BK244 := n4_; have HB := n5_; clear n0_ n1_ n2_ n3_ n4_ n5_; (try clear hb); (try clear ho0)) | ((with_reducible refine gate_dst (N := 11) rfl ?_); refine box_event ?hg (N := 11) ?hd (cs := #[.int .i64 0, .int .i64 0, .slice none 0 0, .slice none 0 0, .int .i64 0, .string (⟨#[]⟩ : ByteArray), .slice none 0 0]) (t := 26) ?hr ?_; (case hd => rfl); (case hg => rfl); (case hr => first | (go_simp; done) | (go_simp; rfl)); intro gb261 hg w25 hbox hb; have n0_ := am_ (Kd.R_below (by (with_reducible repeat (first | apply r1_ | apply r2_ | apply r3_)); exact HO249.out) hb); have n1_ := am_ (Kd.R_below (by (with_reducible repeat (first | apply r1_ | apply r2_ | apply r3_)); exact HO252.out) hb); have n2_ := am_ (Kd.R_below (by (with_reducible repeat (first | apply r1_ | apply r2_ | apply r3_)); exact HO257.out) hb); have n3_ := am_ (Kd.R_below (by (with_reducible repeat (first | apply r1_ | apply r2_ | apply r3_)); exact HO260.out) hb); have n4_ := am_ (kb_ (g := gb244) (o := .cells #[.int .i64 a0_0, .int .i64 a0_1, .slice A0_2 l0_2.length c0_2, .slice A0_3 l0_3.length c0_3, .int .i64 a0_4, .string a0_5, .slice A0_6 l0_6.length c0_6] 26 (0, 0)) (by (with_reducible repeat (first | refine k2_ ?_ _ | refine k3_ ?_ | refine k1_ ?_ _)); exact BK244.out) hb); have n5_ := am_ (bt_ (by repeat (with_reducible first | exact HB.out | apply p3_ | apply p1_ | apply p2_ | refine bs_ ?_ GE244.out)) hb); have n6_ := am_ (hbox); have n7_ := am_ ((by rw [hg]; exact (bz_ (by repeat (with_reducible first | exact HB.out | apply p3_ | apply p1_ | apply p2_ | refine bs_ ?_ GE244.out))) : w.heap.size ≤ gb261)); have n8_ := am_ ((by rw [hg]; exact (bz_ (by repeat (with_reducible first | exact HB.out | apply p3_ | apply p1_ | apply p2_ | refine bs_ ?_ GE244.out))) : w.heap.size ≤ gb261)); have n9_ := am_ ((by rw [hg]; exact Nat.ne_of_lt (blk_lt (g := gb244) (o := .cells #[.int .i64 a0_0, .int .i64 a0_1, .slice A0_2 l0_2.length c0_2, .slice A0_3 l0_3.length c0_3, .int .i64 a0_4, .string a0_5, .slice A0_6 l0_6.length c0_6] 26 (0, 0)) (by (with_reducible repeat (first | refine k2_ ?_ _ | refine k3_ ?_ | refine k1_ ?_ _)); exact BK244.out)) : gb244 ≠ gb261)); have n10_ := am_ ((by rw [hg]; exact Nat.ne_of_gt (blk_lt (g := gb244) (o := .cells #[.int .i64 a0_0, .int .i64 a0_1, .slice A0_2 l0_2.length c0_2, .slice A0_3 l0_3.length c0_3, .int .i64 a0_4, .string a0_5, .slice A0_6 l0_6.length c0_6] 26 (0, 0)) (by (with_reducible repeat (first | refine k2_ ?_ _ | refine k3_ ?_ | refine k1_ ?_ _)); exact BK244.out)) : gb261 ≠ gb244)); clear HO249; clear HO252; clear HO257; clear HO260; clear BK244; clear HB; have HO249 := n0_; have HO252 := n1_; have HO257 := n2_; have HO260 := n3_; have BK244 := n4_; have HB := n5_; have BK261 := n6_; have GW261 := n7_; have GE261 := n8_; have NB244_261 := n9_; have NB261_244 := n10_; clear n0_ n1_ n2_ n3_ n4_ n5_ n6_ n7_ n8_ n9_ n10_; clear hb hbox hg; have hnb26 := NB261_244.out; have hnc26 := NB244_261.out; have hcz27_0 : w25.cell? ⟨gb261, 0, none⟩ = some (.int .i64 0) := (bc_ BK261.out 0).trans rfl; have hcz27_1 : w25.cell? ⟨gb261, 1, none⟩ = some (.int .i64 0) := (bc_ BK261.out 1).trans rfl; have hcz27_2 : w25.cell? ⟨gb261, 2, none⟩ = some (.slice none 0 0) := (bc_ BK261.out 2).trans rfl; have hcz27_3 : w25.cell? ⟨gb261, 3, none⟩ = some (.slice none 0 0) := (bc_ BK261.out 3).trans rfl; have hcz27_4 : w25.cell? ⟨gb261, 4, none⟩ = some (.int .i64 0) := (bc_ BK261.out 4).trans rfl; have hcz27_5 : w25.cell? ⟨gb261, 5, none⟩ = some (.string (⟨#[]⟩ : ByteArray)) := (bc_ BK261.out 5).trans rfl; have hcz27_6 : w25.cell? ⟨gb261, 6, none⟩ = some (.slice none 0 0) := (bc_ BK261.out 6).trans rfl; have hfz27_0 := bf_ BK261.out 0; have hfz27_1 := bf_ BK261.out 1; have hfz27_2 := bf_ BK261.out 2; have hfz27_3 := bf_ BK261.out 3; have hfz27_4 := bf_ BK261.out 4; have hfz27_5 := bf_ BK261.out 5; have hfz27_6 := bf_ BK261.out 6; obtain ⟨Ao28, co28, eo28⟩ := Kd.R_slice HO249.out; subst eo28; obtain ⟨Ao29, co29, eo29⟩ := Kd.R_slice HO252.out; subst eo29; obtain ⟨Ao30, co30, eo30⟩ := Kd.R_slice HO257.out; subst eo30) | ((with_reducible refine gate_callee (f := 31) rfl ?_); refine goesL_ (some 27) rfl rfl Tryd.func31 (by kernel_rfl) rfl #[.agg #[.int .i64 t245, .int .i64 t246, .slice Ao28 t247.length co28, .slice Ao29 t250.length co29, .int .i64 t253, .string t254, .slice Ao30 t255.length co30], .slice Ao31 t258.length co31, .int .i64 a2, .string a3, .string a4] rfl (by (try simp only [List.map_toArray, List.map_cons, List.map_nil]); first | done | rfl | (simp only [List.length_drop, List.length_take]; rfl)) ?_; (with_reducible refine (regis_Free.calls t245 t246 _ _ t247 _ _ t250 t253 t254 _ _ t255 _ _ t258 a2 a3 a4 t262 t263 _ ?side1 ?side2 ?side3 ?side4 ?side5 ?side6 ?side7 ?side8 A8.out).mono ?_); (case side1 => refine (Kd.R_reads' (e := 3) (base := w.heap.size) (ok := fun k_ => True) (n := t247.length) (c := co28) ?_).2.2; exact (by (with_reducible repeat (first | apply r1_ | apply r2_ | apply r3_)); exact (Kd.R_mono (Kd.R_far (p := ⟨gb261, 6, none⟩) (Kd.R_far (p := ⟨gb261, 5, none⟩) (Kd.R_far (p := ⟨gb261, 4, none⟩) (Kd.R_far (p := ⟨gb261, 3, none⟩) (Kd.R_far (p := ⟨gb261, 2, none⟩) (Kd.R_far (p := ⟨gb261, 1, none⟩) (Kd.R_far (p := ⟨gb261, 0, none⟩) (Kd.R_types HO249.out BK261.out (by decide)) (fun _ hk => hk.2) (.int .i64 t245)) (fun _ hk => hk.2) (.int .i64 t246)) (fun _ hk => hk.2) (.slice Ao28 t247.length co28)) (fun _ hk => hk.2) (.slice Ao29 t250.length co29)) (fun _ hk => hk.2) (.int .i64 t253)) (fun _ hk => hk.2) (.string t254)) (fun _ hk => hk.2) (.slice Ao30 t255.length co30)) (fun _ h_ => h_.1)))); (case side2 => first | exact (Kd.R_reads' HO249.out).2.1 | exact (pinfoldlaw0_LendLeases.lent HO249.out).2); (case side3 => refine (Kd.R_reads' (e := 47) (base := w.heap.size) (ok := fun k_ => True) (n := t250.length) (c := co29) ?_).2.2; exact (by (with_reducible repeat (first | apply r1_ | apply r2_ | apply r3_)); exact (Kd.R_mono (Kd.R_far (p := ⟨gb261, 6, none⟩) (Kd.R_far (p := ⟨gb261, 5, none⟩) (Kd.R_far (p := ⟨gb261, 4, none⟩) (Kd.R_far (p := ⟨gb261, 3, none⟩) (Kd.R_far (p := ⟨gb261, 2, none⟩) (Kd.R_far (p := ⟨gb261, 1, none⟩) (Kd.R_far (p := ⟨gb261, 0, none⟩) (Kd.R_types HO252.out BK261.out (by decide)) (fun _ hk => hk.2) (.int .i64 t245)) (fun _ hk => hk.2) (.int .i64 t246)) (fun _ hk => hk.2) (.slice Ao28 t247.length co28)) (fun _ hk => hk.2) (.slice Ao29 t250.length co29)) (fun _ hk => hk.2) (.int .i64 t253)) (fun _ hk => hk.2) (.string t254)) (fun _ hk => hk.2) (.slice Ao30 t255.length co30)) (fun _ h_ => h_.1)))); (case side4 => first | exact (Kd.R_reads' HO252.out).2.1 | exact (pinfoldlaw0_LendLeases.lent HO252.out).2); (case side5 => refine (Kd.R_reads' (e := 49) (base := w.heap.size) (ok := fun k_ => True) (n := t255.length) (c := co30) ?_).2.2; exact (by (with_reducible repeat (first | apply r1_ | apply r2_ | apply r3_)); exact (Kd.R_mono (Kd.R_far (p := ⟨gb261, 6, none⟩) (Kd.R_far (p := ⟨gb261, 5, none⟩) (Kd.R_far (p := ⟨gb261, 4, none⟩) (Kd.R_far (p := ⟨gb261, 3, none⟩) (Kd.R_far (p := ⟨gb261, 2, none⟩) (Kd.R_far (p := ⟨gb261, 1, none⟩) (Kd.R_far (p := ⟨gb261, 0, none⟩) (Kd.R_types HO257.out BK261.out (by decide)) (fun _ hk => hk.2) (.int .i64 t245)) (fun _ hk => hk.2) (.int .i64 t246)) (fun _ hk => hk.2) (.slice Ao28 t247.length co28)) (fun _ hk => hk.2) (.slice Ao29 t250.length co29)) (fun _ hk => hk.2) (.int .i64 t253)) (fun _ hk => hk.2) (.string t254)) (fun _ hk => hk.2) (.slice Ao30 t255.length co30)) (fun _ h_ => h_.1)))); (case side6 => first | exact (Kd.R_reads' HO257.out).2.1 | exact (pinfoldlaw0_LendLeases.lent HO257.out).2); (case side7 => refine (pinfoldlaw0_LendLeases.lent (base := w.heap.size) (ok := fun k_ => True) (c := co31) (l := t258) ?_).1; exact (by (with_reducible repeat (first | apply r1_ | apply r2_ | apply r3_)); exact (Kd.R_mono (Kd.R_far (p := ⟨gb261, 6, none⟩) (Kd.R_far (p := ⟨gb261, 5, none⟩) (Kd.R_far (p := ⟨gb261, 4, none⟩) (Kd.R_far (p := ⟨gb261, 3, none⟩) (Kd.R_far (p := ⟨gb261, 2, none⟩) (Kd.R_far (p := ⟨gb261, 1, none⟩) (Kd.R_far (p := ⟨gb261, 0, none⟩) (Kd.R_types HO260.out BK261.out (by decide)) (fun _ hk => hk.2) (.int .i64 t245)) (fun _ hk => hk.2) (.int .i64 t246)) (fun _ hk => hk.2) (.slice Ao28 t247.length co28)) (fun _ hk => hk.2) (.slice Ao29 t250.length co29)) (fun _ hk => hk.2) (.int .i64 t253)) (fun _ hk => hk.2) (.string t254)) (fun _ hk => hk.2) (.slice Ao30 t255.length co30)) (fun _ h_ => h_.1)))); (case side8 => first | exact (Kd.R_reads' HO260.out).2.1 | exact (pinfoldlaw0_LendLeases.lent HO260.out).2); rintro e w32 ⟨rfl, hb⟩; refine ⟨_, rfl, ?_⟩; have n0_ := am_ (Kd.R_below (by (with_reducible repeat (first | apply r1_ | apply r2_ | apply r3_)); exact (Kd.R_mono (Kd.R_far (p := ⟨gb261, 6, none⟩) (Kd.R_far (p := ⟨gb261, 5, none⟩) (Kd.R_far (p := ⟨gb261, 4, none⟩) (Kd.R_far (p := ⟨gb261, 3, none⟩) (Kd.R_far (p := ⟨gb261, 2, none⟩) (Kd.R_far (p := ⟨gb261, 1, none⟩) (Kd.R_far (p := ⟨gb261, 0, none⟩) (Kd.R_types HO249.out BK261.out (by decide)) (fun _ hk => hk.2) (.int .i64 t245)) (fun _ hk => hk.2) (.int .i64 t246)) (fun _ hk => hk.2) (.slice Ao28 t247.length co28)) (fun _ hk => hk.2) (.slice Ao29 t250.length co29)) (fun _ hk => hk.2) (.int .i64 t253)) (fun _ hk => hk.2) (.string t254)) (fun _ hk => hk.2) (.slice Ao30 t255.length co30)) (fun _ h_ => h_.1))) hb); have n1_ := am_ (Kd.R_below (by (with_reducible repeat (first | apply r1_ | apply r2_ | apply r3_)); exact (Kd.R_mono (Kd.R_far (p := ⟨gb261, 6, none⟩) (Kd.R_far (p := ⟨gb261, 5, none⟩) (Kd.R_far (p := ⟨gb261, 4, none⟩) (Kd.R_far (p := ⟨gb261, 3, none⟩) (Kd.R_far (p := ⟨gb261, 2, none⟩) (Kd.R_far (p := ⟨gb261, 1, none⟩) (Kd.R_far (p := ⟨gb261, 0, none⟩) (Kd.R_types HO252.out BK261.out (by decide)) (fun _ hk => hk.2) (.int .i64 t245)) (fun _ hk => hk.2) (.int .i64 t246)) (fun _ hk => hk.2) (.slice Ao28 t247.length co28)) (fun _ hk => hk.2) (.slice Ao29 t250.length co29)) (fun _ hk => hk.2) (.int .i64 t253)) (fun _ hk => hk.2) (.string t254)) (fun _ hk => hk.2) (.slice Ao30 t255.length co30)) (fun _ h_ => h_.1))) hb); have n2_ := am_ (Kd.R_below (by (with_reducible repeat (first | apply r1_ | apply r2_ | apply r3_)); exact (Kd.R_mono (Kd.R_far (p := ⟨gb261, 6, none⟩) (Kd.R_far (p := ⟨gb261, 5, none⟩) (Kd.R_far (p := ⟨gb261, 4, none⟩) (Kd.R_far (p := ⟨gb261, 3, none⟩) (Kd.R_far (p := ⟨gb261, 2, none⟩) (Kd.R_far (p := ⟨gb261, 1, none⟩) (Kd.R_far (p := ⟨gb261, 0, none⟩) (Kd.R_types HO257.out BK261.out (by decide)) (fun _ hk => hk.2) (.int .i64 t245)) (fun _ hk => hk.2) (.int .i64 t246)) (fun _ hk => hk.2) (.slice Ao28 t247.length co28)) (fun _ hk => hk.2) (.slice Ao29 t250.length co29)) (fun _ hk => hk.2) (.int .i64 t253)) (fun _ hk => hk.2) (.string t254)) (fun _ hk => hk.2) (.slice Ao30 t255.length co30)) (fun _ h_ => h_.1))) hb); have n3_ := am_ (Kd.R_below (by (with_reducible repeat (first | apply r1_ | apply r2_ | apply r3_)); exact (Kd.R_mono (Kd.R_far (p := ⟨gb261, 6, none⟩) (Kd.R_far (p := ⟨gb261, 5, none⟩) (Kd.R_far (p := ⟨gb261, 4, none⟩) (Kd.R_far (p := ⟨gb261, 3, none⟩) (Kd.R_far (p := ⟨gb261, 2, none⟩) (Kd.R_far (p := ⟨gb261, 1, none⟩) (Kd.R_far (p := ⟨gb261, 0, none⟩) (Kd.R_types HO260.out BK261.out (by decide)) (fun _ hk => hk.2) (.int .i64 t245)) (fun _ hk => hk.2) (.int .i64 t246)) (fun _ hk => hk.2) (.slice Ao28 t247.length co28)) (fun _ hk => hk.2) (.slice Ao29 t250.length co29)) (fun _ hk => hk.2) (.int .i64 t253)) (fun _ hk => hk.2) (.string t254)) (fun _ hk => hk.2) (.slice Ao30 t255.length co30)) (fun _ h_ => h_.1))) hb); have n4_ := am_ (kb_ (g := gb244) (o := .cells #[.int .i64 a0_0, .int .i64 a0_1, .slice A0_2 l0_2.length c0_2, .slice A0_3 l0_3.length c0_3, .int .i64 a0_4, .string a0_5, .slice A0_6 l0_6.length c0_6] 26 (0, 0)) (by (with_reducible repeat (first | refine k2_ ?_ _ | refine k3_ ?_ | refine k1_ ?_ _)); refine blk_far ?_ NB244_261.out _; (with_reducible repeat (first | refine k2_ ?_ _ | refine k3_ ?_ | refine k1_ ?_ _)); refine blk_far ?_ NB244_261.out _; (with_reducible repeat (first | refine k2_ ?_ _ | refine k3_ ?_ | refine k1_ ?_ _)); refine blk_far ?_ NB244_261.out _; (with_reducible repeat (first | refine k2_ ?_ _ | refine k3_ ?_ | refine k1_ ?_ _)); refine blk_far ?_ NB244_261.out _; (with_reducible repeat (first | refine k2_ ?_ _ | refine k3_ ?_ | refine k1_ ?_ _)); refine blk_far ?_ NB244_261.out _; (with_reducible repeat (first | refine k2_ ?_ _ | refine k3_ ?_ | refine k1_ ?_ _)); refine blk_far ?_ NB244_261.out _; (with_reducible repeat (first | refine k2_ ?_ _ | refine k3_ ?_ | refine k1_ ?_ _)); refine blk_far ?_ NB244_261.out _; (with_reducible repeat (first | refine k2_ ?_ _ | refine k3_ ?_ | refine k1_ ?_ _)); exact BK244.out) hb); have n5_ := am_ (kb_ (g := gb261) (o := .cells #[.int .i64 t245, .int .i64 t246, .slice Ao28 t247.length co28, .slice Ao29 t250.length co29, .int .i64 t253, .string t254, .slice Ao30 t255.length co30] 26 (0, 0)) (by (with_reducible repeat (first | refine k2_ ?_ _ | refine k3_ ?_ | refine k1_ ?_ _)); refine blk_put (cs := #[.int .i64 t245, .int .i64 t246, .slice Ao28 t247.length co28, .slice Ao29 t250.length co29, .int .i64 t253, .string t254, .slice none 0 0]) ?_ 6 _ rfl; (with_reducible repeat (first | refine k2_ ?_ _ | refine k3_ ?_ | refine k1_ ?_ _)); refine blk_put (cs := #[.int .i64 t245, .int .i64 t246, .slice Ao28 t247.length co28, .slice Ao29 t250.length co29, .int .i64 t253, .string (⟨#[]⟩ : ByteArray), .slice none 0 0]) ?_ 5 _ rfl; (with_reducible repeat (first | refine k2_ ?_ _ | refine k3_ ?_ | refine k1_ ?_ _)); refine blk_put (cs := #[.int .i64 t245, .int .i64 t246, .slice Ao28 t247.length co28, .slice Ao29 t250.length co29, .int .i64 0, .string (⟨#[]⟩ : ByteArray), .slice none 0 0]) ?_ 4 _ rfl; (with_reducible repeat (first | refine k2_ ?_ _ | refine k3_ ?_ | refine k1_ ?_ _)); refine blk_put (cs := #[.int .i64 t245, .int .i64 t246, .slice Ao28 t247.length co28, .slice none 0 0, .int .i64 0, .string (⟨#[]⟩ : ByteArray), .slice none 0 0]) ?_ 3 _ rfl; (with_reducible repeat (first | refine k2_ ?_ _ | refine k3_ ?_ | refine k1_ ?_ _)); refine blk_put (cs := #[.int .i64 t245, .int .i64 t246, .slice none 0 0, .slice none 0 0, .int .i64 0, .string (⟨#[]⟩ : ByteArray), .slice none 0 0]) ?_ 2 _ rfl; (with_reducible repeat (first | refine k2_ ?_ _ | refine k3_ ?_ | refine k1_ ?_ _)); refine blk_put (cs := #[.int .i64 t245, .int .i64 0, .slice none 0 0, .slice none 0 0, .int .i64 0, .string (⟨#[]⟩ : ByteArray), .slice none 0 0]) ?_ 1 _ rfl; (with_reducible repeat (first | refine k2_ ?_ _ | refine k3_ ?_ | refine k1_ ?_ _)); refine blk_put (cs := #[.int .i64 0, .int .i64 0, .slice none 0 0, .slice none 0 0, .int .i64 0, .string (⟨#[]⟩ : ByteArray), .slice none 0 0]) ?_ 0 _ rfl; (with_reducible repeat (first | refine k2_ ?_ _ | refine k3_ ?_ | refine k1_ ?_ _)); exact BK261.out) hb); have n6_ := am_ (bt_ (by repeat (with_reducible first | exact HB.out | apply p3_ | apply p1_ | apply p2_ | refine bs_ ?_ GE244.out | refine bs_ ?_ GE261.out)) hb); clear HO249; clear HO252; clear HO257; clear HO260; clear BK244; clear BK261; clear HB; have HO249 := n0_; have HO252 := n1_; have HO257 := n2_; have HO260 := n3_; have BK244 := n4_; have BK261 := n5_; have HB := n6_; clear n0_ n1_ n2_ n3_ n4_ n5_ n6_; (try clear hb); have hcz33_0 : w32.cell? ⟨gb244, 0, none⟩ = some (.int .i64 a0_0) := (bc_ BK244.out 0).trans rfl; have hcz33_1 : w32.cell? ⟨gb244, 1, none⟩ = some (.int .i64 a0_1) := (bc_ BK244.out 1).trans rfl; have hcz33_2 : w32.cell? ⟨gb244, 2, none⟩ = some (.slice A0_2 l0_2.length c0_2) := (bc_ BK244.out 2).trans rfl; have hcz33_3 : w32.cell? ⟨gb244, 3, none⟩ = some (.slice A0_3 l0_3.length c0_3) := (bc_ BK244.out 3).trans rfl; have hcz33_4 : w32.cell? ⟨gb244, 4, none⟩ = some (.int .i64 a0_4) := (bc_ BK244.out 4).trans rfl; have hcz33_5 : w32.cell? ⟨gb244, 5, none⟩ = some (.string a0_5) := (bc_ BK244.out 5).trans rfl; have hcz33_6 : w32.cell? ⟨gb244, 6, none⟩ = some (.slice A0_6 l0_6.length c0_6) := (bc_ BK244.out 6).trans rfl; have hfz33_0 := bf_ BK244.out 0; have hfz33_1 := bf_ BK244.out 1; have hfz33_2 := bf_ BK244.out 2; have hfz33_3 := bf_ BK244.out 3; have hfz33_4 := bf_ BK244.out 4; have hfz33_5 := bf_ BK244.out 5; have hfz33_6 := bf_ BK244.out 6) | ((with_reducible refine gate_callee (f := 32) rfl ?_); refine goesL_ (some 36) rfl rfl Tryd.func32 (by kernel_rfl) rfl #[.agg #[.int .i64 a0_0, .int .i64 a0_1, .slice A0_2 l0_2.length c0_2, .slice A0_3 l0_3.length c0_3, .int .i64 a0_4, .string a0_5, .slice A0_6 l0_6.length c0_6], .slice A1 l1.length c1, .int .i64 a2, .string a3, .string a4] rfl (by (try simp only [List.map_toArray, List.map_cons, List.map_nil]); first | done | rfl | (simp only [List.length_drop, List.length_take]; rfl)) ?_; (with_reducible refine (pinfoldref11_FreeName.calls a0_0 a0_1 _ _ l0_2 _ _ l0_3 a0_4 a0_5 _ _ l0_6 _ _ l1 a2 a3 a4 t264 t265 _ ?side1 ?side2 ?side3 ?side4 ?side5 ?side6 ?side7 ?side8 A9.out).mono ?_); (case side1 => repeat (first | exact (c4_ HR0_2.out HB.out) | (with_reducible refine c1_ ?_ _) | (with_reducible refine c2_ ?_ _) | (with_reducible refine c3_ ?_))); (case side2 => exact HC0_2.out); (case side3 => repeat (first | exact (c4_ HR0_3.out HB.out) | (with_reducible refine c1_ ?_ _) | (with_reducible refine c2_ ?_ _) | (with_reducible refine c3_ ?_))); (case side4 => exact HC0_3.out); (case side5 => repeat (first | exact (c4_ HR0_6.out HB.out) | (with_reducible refine c1_ ?_ _) | (with_reducible refine c2_ ?_ _) | (with_reducible refine c3_ ?_))); (case side6 => exact HC0_6.out); (case side7 => repeat (first | exact (c4_ HR1.out HB.out) | (with_reducible refine c1_ ?_ _) | (with_reducible refine c2_ ?_ _) | (with_reducible refine c3_ ?_))); (case side8 => exact HC1.out); rintro e w34 ⟨rfl, hb⟩; refine ⟨_, rfl, ?_⟩; have n0_ := am_ (Kd.R_below (by (with_reducible repeat (first | apply r1_ | apply r2_ | apply r3_)); exact HO249.out) hb); have n1_ := am_ (Kd.R_below (by (with_reducible repeat (first | apply r1_ | apply r2_ | apply r3_)); exact HO252.out) hb); have n2_ := am_ (Kd.R_below (by (with_reducible repeat (first | apply r1_ | apply r2_ | apply r3_)); exact HO257.out) hb); have n3_ := am_ (Kd.R_below (by (with_reducible repeat (first | apply r1_ | apply r2_ | apply r3_)); exact HO260.out) hb); have n4_ := am_ (kb_ (g := gb244) (o := .cells #[.int .i64 a0_0, .int .i64 a0_1, .slice A0_2 l0_2.length c0_2, .slice A0_3 l0_3.length c0_3, .int .i64 a0_4, .string a0_5, .slice A0_6 l0_6.length c0_6] 26 (0, 0)) (by (with_reducible repeat (first | refine k2_ ?_ _ | refine k3_ ?_ | refine k1_ ?_ _)); exact BK244.out) hb); have n5_ := am_ (kb_ (g := gb261) (o := .cells #[.int .i64 t245, .int .i64 t246, .slice Ao28 t247.length co28, .slice Ao29 t250.length co29, .int .i64 t253, .string t254, .slice Ao30 t255.length co30] 26 (0, 0)) (by (with_reducible repeat (first | refine k2_ ?_ _ | refine k3_ ?_ | refine k1_ ?_ _)); exact BK261.out) hb); have n6_ := am_ (bt_ (by repeat (with_reducible first | exact HB.out | apply p3_ | apply p1_ | apply p2_ | refine bs_ ?_ GE244.out | refine bs_ ?_ GE261.out)) hb); clear HO249; clear HO252; clear HO257; clear HO260; clear BK244; clear BK261; clear HB; have HO249 := n0_; have HO252 := n1_; have HO257 := n2_; have HO260 := n3_; have BK244 := n4_; have BK261 := n5_; have HB := n6_; clear n0_ n1_ n2_ n3_ n4_ n5_ n6_; (try clear hb)))
      have n0_ := am_ (r3_ HO249.out)
      have n1_ := am_ (r3_ HO252.out)
      have n2_ := am_ (r3_ HO257.out)
      have n3_ := am_ (r3_ HO260.out)
      have n4_ := am_ (k3_ BK244.out)
      have n5_ := am_ (k3_ BK261.out)
      have n6_ := am_ (p2_ HB.out)
      clear HO249
      clear HO252
      clear HO257
      clear HO260
      clear BK244
      clear BK261
      clear HB
      have HO249 := n0_
      have HO252 := n1_
      have HO257 := n2_
      have HO260 := n3_
      have BK244 := n4_
      have BK261 := n5_
      have HB := n6_
      clear n0_ n1_ n2_ n3_ n4_ n5_ n6_
      refine start_ (n := 32) (S := fun w' => w'.cell? ⟨gb261, 0, none⟩ = some (.int .i64 t245) ∧ w'.cell? ⟨gb261, 1, none⟩ = some (.int .i64 t246) ∧ w'.cell? ⟨gb261, 2, none⟩ = some (.slice Ao28 t247.length co28) ∧ w'.cell? ⟨gb261, 3, none⟩ = some (.slice Ao29 t250.length co29) ∧ w'.cell? ⟨gb261, 4, none⟩ = some (.int .i64 t253) ∧ w'.cell? ⟨gb261, 5, none⟩ = some (.string t254) ∧ w'.cell? ⟨gb261, 6, none⟩ = some (.slice Ao30 t255.length co30) ∧ w'.cell? ⟨gb244, 0, none⟩ = some (.int .i64 a0_0) ∧ w'.cell? ⟨gb244, 1, none⟩ = some (.int .i64 a0_1) ∧ w'.cell? ⟨gb244, 2, none⟩ = some (.slice A0_2 l0_2.length c0_2) ∧ w'.cell? ⟨gb244, 3, none⟩ = some (.slice A0_3 l0_3.length c0_3) ∧ w'.cell? ⟨gb244, 4, none⟩ = some (.int .i64 a0_4) ∧ w'.cell? ⟨gb244, 5, none⟩ = some (.string a0_5) ∧ w'.cell? ⟨gb244, 6, none⟩ = some (.slice A0_6 l0_6.length c0_6)) (ds := []) #[false, false, false, false, false, false, false, false, false, false, false, false, false, false, false, false, false, false, false, false, false, false, false, false, false, false, false, false, false, false, false, false] (by kernel_rfl) rfl rfl ⟨(bc_ BK261.out 0).trans rfl, (bc_ BK261.out 1).trans rfl, (bc_ BK261.out 2).trans rfl, (bc_ BK261.out 3).trans rfl, (bc_ BK261.out 4).trans rfl, (bc_ BK261.out 5).trans rfl, (bc_ BK261.out 6).trans rfl, (bc_ BK244.out 0).trans rfl, (bc_ BK244.out 1).trans rfl, (bc_ BK244.out 2).trans rfl, (bc_ BK244.out 3).trans rfl, (bc_ BK244.out 4).trans rfl, (bc_ BK244.out 5).trans rfl, (bc_ BK244.out 6).trans rfl⟩ (fun hHeld => ?_); refine with_tabW pinfoldlaw16_Regises.tab4 pinfoldlaw16_Regises.bits4 (fun HT_ HW_ => ?_)
      generalize w34.drew = w35 at HO249 HO252 HO257 HO260 BK244 BK261 HB hHeld ⊢
      refine pure_ (i := 0) (N := some 39) (v := ?_) (a' := ?_) #[true, false, false, false, false, false, false, false, false, false, false, false, false, false, false, false, false, false, false, false, false, false, false, false, false, false, false, false, false, false, false, false] rfl rfl (any_of HT_.out (by kernel_rfl)) (fun _ _ _ h => h) (Or.inl ⟨by rfl, ?_⟩) ?_ ?_
      rotate_left
      ·intro w'
       go_simp
       with_reducible rfl
      rotate_left
      ·simp only [Act.put, List.setIfInBounds_toArray, List.set_cons_zero, List.set_cons_succ, i64_w, i32_w]
       rfl
      refine pure_ (i := 1) (N := some 40) (v := ?_) (a' := ?_) #[true, true, false, false, false, false, false, false, false, false, false, false, false, false, false, false, false, false, false, false, false, false, false, false, false, false, false, false, false, false, false, false] rfl rfl (any_of HT_.out (by kernel_rfl)) (fun _ _ _ h => h) (Or.inl ⟨by rfl, ?_⟩) ?_ ?_
      rotate_left
      ·intro w'
       go_simp
       with_reducible rfl
      rotate_left
      ·simp only [Act.put, List.setIfInBounds_toArray, List.set_cons_zero, List.set_cons_succ, i64_w, i32_w]
       rfl
      refine pure_ (i := 2) (N := some 41) (v := ?_) (a' := ?_) #[true, true, true, false, false, false, false, false, false, false, false, false, false, false, false, false, false, false, false, false, false, false, false, false, false, false, false, false, false, false, false, false] rfl rfl (any_of HT_.out (by kernel_rfl)) (fun _ _ _ h => h) (Or.inl ⟨by rfl, ?_⟩) ?_ ?_
      rotate_left
      ·intro w'
       go_simp
       with_reducible rfl
      rotate_left
      ·simp only [Act.put, List.setIfInBounds_toArray, List.set_cons_zero, List.set_cons_succ, i64_w, i32_w]
       rfl
      refine pure_ (i := 3) (N := some 42) (v := ?_) (a' := ?_) #[true, true, true, true, false, false, false, false, false, false, false, false, false, false, false, false, false, false, false, false, false, false, false, false, false, false, false, false, false, false, false, false] rfl rfl (any_of HT_.out (by kernel_rfl)) (fun _ _ _ h => h) (Or.inl ⟨by rfl, ?_⟩) ?_ ?_
      rotate_left
      ·intro w'
       go_simp
       with_reducible rfl
      rotate_left
      ·simp only [Act.put, List.setIfInBounds_toArray, List.set_cons_zero, List.set_cons_succ, i64_w, i32_w]
       rfl
      refine pure_ (i := 4) (N := some 43) (v := ?_) (a' := ?_) #[true, true, true, true, true, false, false, false, false, false, false, false, false, false, false, false, false, false, false, false, false, false, false, false, false, false, false, false, false, false, false, false] rfl rfl (any_of HT_.out (by kernel_rfl)) (fun _ _ _ h => h) (Or.inl ⟨by rfl, ?_⟩) ?_ ?_
      rotate_left
      ·intro w'
       go_simp
       with_reducible rfl
      rotate_left
      ·simp only [Act.put, List.setIfInBounds_toArray, List.set_cons_zero, List.set_cons_succ, i64_w, i32_w]
       rfl
      refine pure_ (i := 6) (N := some 45) (v := ?_) (a' := ?_) #[true, true, true, true, true, false, true, false, false, false, false, false, false, false, false, false, false, false, false, false, false, false, false, false, false, false, false, false, false, false, false, false] rfl rfl (any_of HT_.out (by kernel_rfl)) (fun _ _ _ h => h) (Or.inl ⟨by rfl, ?_⟩) ?_ ?_
      rotate_left
      ·intro w'
       go_simp
       with_reducible rfl
      rotate_left
      ·simp only [Act.put, List.setIfInBounds_toArray, List.set_cons_zero, List.set_cons_succ, i64_w, i32_w]
       rfl
      refine one_ (i := 5) (N := some 44) #[true, true, true, true, true, true, true, false, false, false, false, false, false, false, false, false, false, false, false, false, false, false, false, false, false, false, false, false, false, false, false, false] rfl rfl (one_of HT_.out (by kernel_rfl)) (by decide) (fun K hK => ?_)
      refine goes_ Tryd.func24 (by kernel_rfl) rfl #[.int .i64 t263] (by rfl) rfl rfl (by (try simp only [List.map_toArray, List.map_cons, List.map_nil]); first | done | rfl | (simp only [List.length_drop, List.length_take]; rfl)) ?_
      with_reducible refine (pinfoldlaw0_Num.calls t263 t266 _ A11.out).mono ?_
      rintro e w' ⟨rfl, ⟨nd, rfl⟩⟩
      refine ⟨_, rfl, ?_⟩
      refine hK.out _ _ ⟨(bc_ BK261.out 0).trans rfl, (bc_ BK261.out 1).trans rfl, (bc_ BK261.out 2).trans rfl, (bc_ BK261.out 3).trans rfl, (bc_ BK261.out 4).trans rfl, (bc_ BK261.out 5).trans rfl, (bc_ BK261.out 6).trans rfl, (bc_ BK244.out 0).trans rfl, (bc_ BK244.out 1).trans rfl, (bc_ BK244.out 2).trans rfl, (bc_ BK244.out 3).trans rfl, (bc_ BK244.out 4).trans rfl, (bc_ BK244.out 5).trans rfl, (bc_ BK244.out 6).trans rfl⟩ (fun hHeld => ?_)
      clear hK K
      refine norm_ (a' := ?_) ?_ ?_
      rotate_left
      ·show Act.put _ (some 44) _ = _
       simp only [Act.put, List.setIfInBounds_toArray, List.set_cons_zero, List.set_cons_succ, i64_w, i32_w]
       rfl
      refine pure_ (i := 7) (N := some 46) (v := ?_) (a' := ?_) #[true, true, true, true, true, true, true, true, false, false, false, false, false, false, false, false, false, false, false, false, false, false, false, false, false, false, false, false, false, false, false, false] rfl rfl (any_of HT_.out (by kernel_rfl)) (fun _ _ _ h => h) (Or.inl ⟨by rfl, ?_⟩) ?_ ?_
      rotate_left
      ·intro w'
       go_simp
       with_reducible rfl
      rotate_left
      ·simp only [Act.put, List.setIfInBounds_toArray, List.set_cons_zero, List.set_cons_succ, i64_w, i32_w]
       rfl
      refine pure_ (i := 8) (N := some 47) (v := ?_) (a' := ?_) #[true, true, true, true, true, true, true, true, true, false, false, false, false, false, false, false, false, false, false, false, false, false, false, false, false, false, false, false, false, false, false, false] rfl rfl (any_of HT_.out (by kernel_rfl)) (fun _ _ _ h => h) (Or.inl ⟨by rfl, ?_⟩) ?_ ?_
      rotate_left
      ·intro w'
       go_simp
       with_reducible rfl
      rotate_left
      ·simp only [Act.put, List.setIfInBounds_toArray, List.set_cons_zero, List.set_cons_succ, i64_w, i32_w]
       rfl
      refine pure_ (i := 9) (N := some 48) (v := ?_) (a' := ?_) #[true, true, true, true, true, true, true, true, true, true, false, false, false, false, false, false, false, false, false, false, false, false, false, false, false, false, false, false, false, false, false, false] rfl rfl (any_of HT_.out (by kernel_rfl)) (fun _ _ _ h => h) (Or.inl ⟨by rfl, ?_⟩) ?_ ?_
      rotate_left
      ·intro w'
       go_simp
       with_reducible rfl
      rotate_left
      ·simp only [Act.put, List.setIfInBounds_toArray, List.set_cons_zero, List.set_cons_succ, i64_w, i32_w]
       rfl
      refine pure_ (i := 11) (N := some 50) (v := ?_) (a' := ?_) #[true, true, true, true, true, true, true, true, true, true, false, true, false, false, false, false, false, false, false, false, false, false, false, false, false, false, false, false, false, false, false, false] rfl rfl (any_of HT_.out (by kernel_rfl)) (fun _ _ _ h => h) (Or.inl ⟨by rfl, ?_⟩) ?_ ?_
      rotate_left
      ·intro w'
       go_simp
       with_reducible rfl
      rotate_left
      ·simp only [Act.put, List.setIfInBounds_toArray, List.set_cons_zero, List.set_cons_succ, i64_w, i32_w]
       rfl
      refine pure_ (i := 14) (N := some 53) (v := ?_) (a' := ?_) #[true, true, true, true, true, true, true, true, true, true, false, true, false, false, true, false, false, false, false, false, false, false, false, false, false, false, false, false, false, false, false, false] rfl rfl (any_of HT_.out (by kernel_rfl)) (fun _ _ _ h => h) (Or.inl ⟨by rfl, ?_⟩) ?_ ?_
      rotate_left
      ·intro w'
       go_simp
       with_reducible rfl
      rotate_left
      ·simp only [Act.put, List.setIfInBounds_toArray, List.set_cons_zero, List.set_cons_succ, i64_w, i32_w]
       rfl
      refine take_ (i := 10) (N := some 49) (v := ?_) (a' := ?_) #[true, true, true, true, true, true, true, true, true, true, true, true, false, false, true, false, false, false, false, false, false, false, false, false, false, false, false, false, false, false, false, false] rfl rfl (take_ofW HT_.out HW_.out (by kernel_rfl)) (fun _ _ _ h => h) (Or.inl ⟨by rfl, ?_⟩) hHeld ?_ ?_
      rotate_left
      ·rintro w' ⟨s0, s1, s2, s3, s4, s5, s6, s7, s8, s9, s10, s11, s12, s13⟩
       go_simp
       with_reducible rfl
      rotate_left
      ·simp only [Act.put, List.setIfInBounds_toArray, List.set_cons_zero, List.set_cons_succ, i64_w, i32_w]
       rfl
      refine take_ (i := 13) (N := some 52) (v := ?_) (a' := ?_) #[true, true, true, true, true, true, true, true, true, true, true, true, false, true, true, false, false, false, false, false, false, false, false, false, false, false, false, false, false, false, false, false] rfl rfl (take_ofW HT_.out HW_.out (by kernel_rfl)) (fun _ _ _ h => h) (Or.inl ⟨by rfl, ?_⟩) hHeld ?_ ?_
      rotate_left
      ·rintro w' ⟨s0, s1, s2, s3, s4, s5, s6, s7, s8, s9, s10, s11, s12, s13⟩
       go_simp
       with_reducible rfl
      rotate_left
      ·simp only [Act.put, List.setIfInBounds_toArray, List.set_cons_zero, List.set_cons_succ, i64_w, i32_w]
       rfl
      refine one_ (i := 12) (N := some 51) #[true, true, true, true, true, true, true, true, true, true, true, true, true, true, true, false, false, false, false, false, false, false, false, false, false, false, false, false, false, false, false, false] rfl rfl (one_of HT_.out (by kernel_rfl)) (by decide) (fun K hK => ?_)
      refine goes_ Tryd.func33 (by kernel_rfl) rfl #[.agg #[.int .i64 t245, .int .i64 t246, .slice Ao28 t247.length co28, .slice Ao29 t250.length co29, .int .i64 t253, .string t254, .slice Ao30 t255.length co30], .string a4] (by rfl) rfl rfl (by (try simp only [List.map_toArray, List.map_cons, List.map_nil]); first | done | rfl | (simp only [List.length_drop, List.length_take]; rfl)) ?_
      with_reducible refine (regis_Full_c.calls t245 t246 _ _ t247 _ _ t250 t253 t254 _ _ t255 a4 t267 _ ?side1 ?side2 ?side3 ?side4 ?side5 ?side6 A13.out).mono ?_
      (case side1 => repeat (first | exact (Kd.R_reads' HO249.out).2.2 | exact (pinfoldlaw0_LendLeases.lent HO249.out).1 |  (with_reducible refine c1_ ?_ _) | (with_reducible refine c2_ ?_ _) | (with_reducible refine c3_ ?_)))
      (case side2 => first | exact (Kd.R_reads' HO249.out).2.1 | exact (pinfoldlaw0_LendLeases.lent HO249.out).2)
      (case side3 => repeat (first | exact (Kd.R_reads' HO252.out).2.2 | exact (pinfoldlaw0_LendLeases.lent HO252.out).1 |  (with_reducible refine c1_ ?_ _) | (with_reducible refine c2_ ?_ _) | (with_reducible refine c3_ ?_)))
      (case side4 => first | exact (Kd.R_reads' HO252.out).2.1 | exact (pinfoldlaw0_LendLeases.lent HO252.out).2)
      (case side5 => repeat (first | exact (Kd.R_reads' HO257.out).2.2 | exact (pinfoldlaw0_LendLeases.lent HO257.out).1 |  (with_reducible refine c1_ ?_ _) | (with_reducible refine c2_ ?_ _) | (with_reducible refine c3_ ?_)))
      (case side6 => first | exact (Kd.R_reads' HO257.out).2.1 | exact (pinfoldlaw0_LendLeases.lent HO257.out).2)
      rintro e w36 ⟨rfl, hb⟩
      refine ⟨_, rfl, ?_⟩
      have n0_ := am_ (Kd.R_below (by (with_reducible repeat (first | apply r1_ | apply r2_ | apply r3_)); exact HO249.out) hb)
      have n1_ := am_ (Kd.R_below (by (with_reducible repeat (first | apply r1_ | apply r2_ | apply r3_)); exact HO252.out) hb)
      have n2_ := am_ (Kd.R_below (by (with_reducible repeat (first | apply r1_ | apply r2_ | apply r3_)); exact HO257.out) hb)
      have n3_ := am_ (Kd.R_below (by (with_reducible repeat (first | apply r1_ | apply r2_ | apply r3_)); exact HO260.out) hb)
      have n4_ := am_ (kb_ (g := gb244) (o := .cells #[.int .i64 a0_0, .int .i64 a0_1, .slice A0_2 l0_2.length c0_2, .slice A0_3 l0_3.length c0_3, .int .i64 a0_4, .string a0_5, .slice A0_6 l0_6.length c0_6] 26 (0, 0)) (by (with_reducible repeat (first | refine k2_ ?_ _ | refine k3_ ?_ | refine k1_ ?_ _)); exact BK244.out) hb)
      have n5_ := am_ (kb_ (g := gb261) (o := .cells #[.int .i64 t245, .int .i64 t246, .slice Ao28 t247.length co28, .slice Ao29 t250.length co29, .int .i64 t253, .string t254, .slice Ao30 t255.length co30] 26 (0, 0)) (by (with_reducible repeat (first | refine k2_ ?_ _ | refine k3_ ?_ | refine k1_ ?_ _)); exact BK261.out) hb)
      have n6_ := am_ (bt_ (by repeat (with_reducible first | exact HB.out | apply p3_ | apply p1_ | apply p2_ | refine bs_ ?_ GE244.out | refine bs_ ?_ GE261.out)) hb)
      clear HO249
      clear HO252
      clear HO257
      clear HO260
      clear BK244
      clear BK261
      clear HB
      have HO249 := n0_
      have HO252 := n1_
      have HO257 := n2_
      have HO260 := n3_
      have BK244 := n4_
      have BK261 := n5_
      have HB := n6_
      clear n0_ n1_ n2_ n3_ n4_ n5_ n6_
      (try clear hb)
      (try clear hb2)
      (try clear hk)
      (try clear hi)
      refine hK.out _ _ ⟨(bc_ BK261.out 0).trans rfl, (bc_ BK261.out 1).trans rfl, (bc_ BK261.out 2).trans rfl, (bc_ BK261.out 3).trans rfl, (bc_ BK261.out 4).trans rfl, (bc_ BK261.out 5).trans rfl, (bc_ BK261.out 6).trans rfl, (bc_ BK244.out 0).trans rfl, (bc_ BK244.out 1).trans rfl, (bc_ BK244.out 2).trans rfl, (bc_ BK244.out 3).trans rfl, (bc_ BK244.out 4).trans rfl, (bc_ BK244.out 5).trans rfl, (bc_ BK244.out 6).trans rfl⟩ (fun hHeld => ?_)
      clear hK K
      refine norm_ (a' := ?_) ?_ ?_
      rotate_left
      ·show Act.put _ (some 51) _ = _
       simp only [Act.put, List.setIfInBounds_toArray, List.set_cons_zero, List.set_cons_succ, i64_w, i32_w]
       rfl
      refine one_ (i := 15) (N := some 54) #[true, true, true, true, true, true, true, true, true, true, true, true, true, true, true, true, false, false, false, false, false, false, false, false, false, false, false, false, false, false, false, false] rfl rfl (one_of HT_.out (by kernel_rfl)) (by decide) (fun K hK => ?_)
      refine goes_ Tryd.func34 (by kernel_rfl) rfl #[.agg #[.int .i64 a0_0, .int .i64 a0_1, .slice A0_2 l0_2.length c0_2, .slice A0_3 l0_3.length c0_3, .int .i64 a0_4, .string a0_5, .slice A0_6 l0_6.length c0_6], .string a4] (by rfl) rfl rfl (by (try simp only [List.map_toArray, List.map_cons, List.map_nil]); first | done | rfl | (simp only [List.length_drop, List.length_take]; rfl)) ?_
      with_reducible refine (pinfoldref11_Full_c.calls a0_0 a0_1 _ _ l0_2 _ _ l0_3 a0_4 a0_5 _ _ l0_6 a4 t268 _ ?side1 ?side2 ?side3 ?side4 ?side5 ?side6 A14.out).mono ?_
      (case side1 => repeat (first | exact (c4_ HR0_2.out HB.out) | (with_reducible refine c1_ ?_ _) | (with_reducible refine c2_ ?_ _) | (with_reducible refine c3_ ?_)))
      (case side2 => exact HC0_2.out)
      (case side3 => repeat (first | exact (c4_ HR0_3.out HB.out) | (with_reducible refine c1_ ?_ _) | (with_reducible refine c2_ ?_ _) | (with_reducible refine c3_ ?_)))
      (case side4 => exact HC0_3.out)
      (case side5 => repeat (first | exact (c4_ HR0_6.out HB.out) | (with_reducible refine c1_ ?_ _) | (with_reducible refine c2_ ?_ _) | (with_reducible refine c3_ ?_)))
      (case side6 => exact HC0_6.out)
      rintro e w37 ⟨rfl, hb⟩
      refine ⟨_, rfl, ?_⟩
      have n0_ := am_ (Kd.R_below (by (with_reducible repeat (first | apply r1_ | apply r2_ | apply r3_)); exact HO249.out) hb)
      have n1_ := am_ (Kd.R_below (by (with_reducible repeat (first | apply r1_ | apply r2_ | apply r3_)); exact HO252.out) hb)
      have n2_ := am_ (Kd.R_below (by (with_reducible repeat (first | apply r1_ | apply r2_ | apply r3_)); exact HO257.out) hb)
      have n3_ := am_ (Kd.R_below (by (with_reducible repeat (first | apply r1_ | apply r2_ | apply r3_)); exact HO260.out) hb)
      have n4_ := am_ (kb_ (g := gb244) (o := .cells #[.int .i64 a0_0, .int .i64 a0_1, .slice A0_2 l0_2.length c0_2, .slice A0_3 l0_3.length c0_3, .int .i64 a0_4, .string a0_5, .slice A0_6 l0_6.length c0_6] 26 (0, 0)) (by (with_reducible repeat (first | refine k2_ ?_ _ | refine k3_ ?_ | refine k1_ ?_ _)); exact BK244.out) hb)
      have n5_ := am_ (kb_ (g := gb261) (o := .cells #[.int .i64 t245, .int .i64 t246, .slice Ao28 t247.length co28, .slice Ao29 t250.length co29, .int .i64 t253, .string t254, .slice Ao30 t255.length co30] 26 (0, 0)) (by (with_reducible repeat (first | refine k2_ ?_ _ | refine k3_ ?_ | refine k1_ ?_ _)); exact BK261.out) hb)
      have n6_ := am_ (bt_ (by repeat (with_reducible first | exact HB.out | apply p3_ | apply p1_ | apply p2_ | refine bs_ ?_ GE244.out | refine bs_ ?_ GE261.out)) hb)
      clear HO249
      clear HO252
      clear HO257
      clear HO260
      clear BK244
      clear BK261
      clear HB
      have HO249 := n0_
      have HO252 := n1_
      have HO257 := n2_
      have HO260 := n3_
      have BK244 := n4_
      have BK261 := n5_
      have HB := n6_
      clear n0_ n1_ n2_ n3_ n4_ n5_ n6_
      (try clear hb)
      (try clear hb2)
      (try clear hk)
      (try clear hi)
      refine hK.out _ _ ⟨(bc_ BK261.out 0).trans rfl, (bc_ BK261.out 1).trans rfl, (bc_ BK261.out 2).trans rfl, (bc_ BK261.out 3).trans rfl, (bc_ BK261.out 4).trans rfl, (bc_ BK261.out 5).trans rfl, (bc_ BK261.out 6).trans rfl, (bc_ BK244.out 0).trans rfl, (bc_ BK244.out 1).trans rfl, (bc_ BK244.out 2).trans rfl, (bc_ BK244.out 3).trans rfl, (bc_ BK244.out 4).trans rfl, (bc_ BK244.out 5).trans rfl, (bc_ BK244.out 6).trans rfl⟩ (fun hHeld => ?_)
      clear hK K
      refine norm_ (a' := ?_) ?_ ?_
      rotate_left
      ·show Act.put _ (some 54) _ = _
       simp only [Act.put, List.setIfInBounds_toArray, List.set_cons_zero, List.set_cons_succ, i64_w, i32_w]
       rfl
      refine pure_ (i := 16) (N := some 55) (v := ?_) (a' := ?_) #[true, true, true, true, true, true, true, true, true, true, true, true, true, true, true, true, true, false, false, false, false, false, false, false, false, false, false, false, false, false, false, false] rfl rfl (any_of HT_.out (by kernel_rfl)) (fun _ _ _ h => h) (Or.inl ⟨by rfl, ?_⟩) ?_ ?_
      rotate_left
      ·intro w'
       go_simp
       with_reducible rfl
      rotate_left
      ·simp only [Act.put, List.setIfInBounds_toArray, List.set_cons_zero, List.set_cons_succ, i64_w, i32_w]
       rfl
      refine pure_ (i := 17) (N := some 56) (v := ?_) (a' := ?_) #[true, true, true, true, true, true, true, true, true, true, true, true, true, true, true, true, true, true, false, false, false, false, false, false, false, false, false, false, false, false, false, false] rfl rfl (any_of HT_.out (by kernel_rfl)) (fun _ _ _ h => h) (Or.inl ⟨by rfl, ?_⟩) ?_ ?_
      rotate_left
      ·intro w'
       go_simp
       with_reducible rfl
      rotate_left
      ·simp only [Act.put, List.setIfInBounds_toArray, List.set_cons_zero, List.set_cons_succ, i64_w, i32_w]
       rfl
      refine pure_ (i := 18) (N := some 57) (v := ?_) (a' := ?_) #[true, true, true, true, true, true, true, true, true, true, true, true, true, true, true, true, true, true, true, false, false, false, false, false, false, false, false, false, false, false, false, false] rfl rfl (any_of HT_.out (by kernel_rfl)) (fun _ _ _ h => h) (Or.inl ⟨by rfl, ?_⟩) ?_ ?_
      rotate_left
      ·intro w'
       go_simp
       with_reducible rfl
      rotate_left
      ·simp only [Act.put, List.setIfInBounds_toArray, List.set_cons_zero, List.set_cons_succ, i64_w, i32_w]
       rfl
      refine take_ (i := 19) (N := some 58) (v := ?_) (a' := ?_) #[true, true, true, true, true, true, true, true, true, true, true, true, true, true, true, true, true, true, true, true, false, false, false, false, false, false, false, false, false, false, false, false] rfl rfl (take_ofW HT_.out HW_.out (by kernel_rfl)) (fun _ _ _ h => h) (Or.inl ⟨by rfl, ?_⟩) hHeld ?_ ?_
      rotate_left
      ·rintro w' ⟨s0, s1, s2, s3, s4, s5, s6, s7, s8, s9, s10, s11, s12, s13⟩
       go_simp
       with_reducible rfl
      rotate_left
      ·simp only [Act.put, List.setIfInBounds_toArray, List.set_cons_zero, List.set_cons_succ, i64_w, i32_w]
       rfl
      refine take_ (i := 20) (N := some 59) (v := ?_) (a' := ?_) #[true, true, true, true, true, true, true, true, true, true, true, true, true, true, true, true, true, true, true, true, true, false, false, false, false, false, false, false, false, false, false, false] rfl rfl (take_ofW HT_.out HW_.out (by kernel_rfl)) (fun _ _ _ h => h) (Or.inl ⟨by rfl, ?_⟩) hHeld ?_ ?_
      rotate_left
      ·rintro w' ⟨s0, s1, s2, s3, s4, s5, s6, s7, s8, s9, s10, s11, s12, s13⟩
       go_simp
       with_reducible rfl
      rotate_left
      ·simp only [Act.put, List.setIfInBounds_toArray, List.set_cons_zero, List.set_cons_succ, i64_w, i32_w]
       rfl
      refine one_ (i := 21) (N := some 60) #[true, true, true, true, true, true, true, true, true, true, true, true, true, true, true, true, true, true, true, true, true, true, false, false, false, false, false, false, false, false, false, false] rfl rfl (one_of HT_.out (by kernel_rfl)) (by decide) (fun K hK => ?_)
      refine goes_ Tryd.func27 (by kernel_rfl) rfl #[.agg #[.int .i64 t245, .int .i64 t246, .slice Ao28 t247.length co28, .slice Ao29 t250.length co29, .int .i64 t253, .string t254, .slice Ao30 t255.length co30], .agg #[.int .i64 a0_0, .int .i64 a0_1, .slice A0_2 l0_2.length c0_2, .slice A0_3 l0_3.length c0_3, .int .i64 a0_4, .string a0_5, .slice A0_6 l0_6.length c0_6]] (by rfl) rfl rfl (by (try simp only [List.map_toArray, List.map_cons, List.map_nil]); first | done | rfl | (simp only [List.length_drop, List.length_take]; rfl)) ?_
      with_reducible refine (pinfoldlaw0_SameConfig.calls k t245 t246 _ _ t247 _ _ t250 t253 t254 _ _ t255 a0_0 a0_1 _ _ l0_2 _ _ l0_3 a0_4 a0_5 _ _ l0_6 true _ ?side1 ?side2 ?side3 ?side4 ?side5 ?side6 ?side7 ?side8 ?side9 ?side10 ?side11 ?side12 A16.out).mono ?_
      (case side1 => repeat (first | exact (Kd.R_reads' HO249.out).2.2 | exact (pinfoldlaw0_LendLeases.lent HO249.out).1 |  (with_reducible refine c1_ ?_ _) | (with_reducible refine c2_ ?_ _) | (with_reducible refine c3_ ?_)))
      (case side2 => first | exact (Kd.R_reads' HO249.out).2.1 | exact (pinfoldlaw0_LendLeases.lent HO249.out).2)
      (case side3 => repeat (first | exact (Kd.R_reads' HO252.out).2.2 | exact (pinfoldlaw0_LendLeases.lent HO252.out).1 |  (with_reducible refine c1_ ?_ _) | (with_reducible refine c2_ ?_ _) | (with_reducible refine c3_ ?_)))
      (case side4 => first | exact (Kd.R_reads' HO252.out).2.1 | exact (pinfoldlaw0_LendLeases.lent HO252.out).2)
      (case side5 => repeat (first | exact (Kd.R_reads' HO257.out).2.2 | exact (pinfoldlaw0_LendLeases.lent HO257.out).1 |  (with_reducible refine c1_ ?_ _) | (with_reducible refine c2_ ?_ _) | (with_reducible refine c3_ ?_)))
      (case side6 => first | exact (Kd.R_reads' HO257.out).2.1 | exact (pinfoldlaw0_LendLeases.lent HO257.out).2)
      (case side7 => repeat (first | exact (c4_ HR0_2.out HB.out) | (with_reducible refine c1_ ?_ _) | (with_reducible refine c2_ ?_ _) | (with_reducible refine c3_ ?_)))
      (case side8 => exact HC0_2.out)
      (case side9 => repeat (first | exact (c4_ HR0_3.out HB.out) | (with_reducible refine c1_ ?_ _) | (with_reducible refine c2_ ?_ _) | (with_reducible refine c3_ ?_)))
      (case side10 => exact HC0_3.out)
      (case side11 => repeat (first | exact (c4_ HR0_6.out HB.out) | (with_reducible refine c1_ ?_ _) | (with_reducible refine c2_ ?_ _) | (with_reducible refine c3_ ?_)))
      (case side12 => exact HC0_6.out)
      rintro e w38 ⟨rfl, hb⟩
      refine ⟨_, rfl, ?_⟩
      have n0_ := am_ (Kd.R_below (by (with_reducible repeat (first | apply r1_ | apply r2_ | apply r3_)); exact HO249.out) hb)
      have n1_ := am_ (Kd.R_below (by (with_reducible repeat (first | apply r1_ | apply r2_ | apply r3_)); exact HO252.out) hb)
      have n2_ := am_ (Kd.R_below (by (with_reducible repeat (first | apply r1_ | apply r2_ | apply r3_)); exact HO257.out) hb)
      have n3_ := am_ (Kd.R_below (by (with_reducible repeat (first | apply r1_ | apply r2_ | apply r3_)); exact HO260.out) hb)
      have n4_ := am_ (kb_ (g := gb244) (o := .cells #[.int .i64 a0_0, .int .i64 a0_1, .slice A0_2 l0_2.length c0_2, .slice A0_3 l0_3.length c0_3, .int .i64 a0_4, .string a0_5, .slice A0_6 l0_6.length c0_6] 26 (0, 0)) (by (with_reducible repeat (first | refine k2_ ?_ _ | refine k3_ ?_ | refine k1_ ?_ _)); exact BK244.out) hb)
      have n5_ := am_ (kb_ (g := gb261) (o := .cells #[.int .i64 t245, .int .i64 t246, .slice Ao28 t247.length co28, .slice Ao29 t250.length co29, .int .i64 t253, .string t254, .slice Ao30 t255.length co30] 26 (0, 0)) (by (with_reducible repeat (first | refine k2_ ?_ _ | refine k3_ ?_ | refine k1_ ?_ _)); exact BK261.out) hb)
      have n6_ := am_ (bt_ (by repeat (with_reducible first | exact HB.out | apply p3_ | apply p1_ | apply p2_ | refine bs_ ?_ GE244.out | refine bs_ ?_ GE261.out)) hb)
      clear HO249
      clear HO252
      clear HO257
      clear HO260
      clear BK244
      clear BK261
      clear HB
      have HO249 := n0_
      have HO252 := n1_
      have HO257 := n2_
      have HO260 := n3_
      have BK244 := n4_
      have BK261 := n5_
      have HB := n6_
      clear n0_ n1_ n2_ n3_ n4_ n5_ n6_
      (try clear hb)
      (try clear hb2)
      (try clear hk)
      (try clear hi)
      refine hK.out _ _ ⟨(bc_ BK261.out 0).trans rfl, (bc_ BK261.out 1).trans rfl, (bc_ BK261.out 2).trans rfl, (bc_ BK261.out 3).trans rfl, (bc_ BK261.out 4).trans rfl, (bc_ BK261.out 5).trans rfl, (bc_ BK261.out 6).trans rfl, (bc_ BK244.out 0).trans rfl, (bc_ BK244.out 1).trans rfl, (bc_ BK244.out 2).trans rfl, (bc_ BK244.out 3).trans rfl, (bc_ BK244.out 4).trans rfl, (bc_ BK244.out 5).trans rfl, (bc_ BK244.out 6).trans rfl⟩ (fun hHeld => ?_)
      clear hK K
      refine norm_ (a' := ?_) ?_ ?_
      rotate_left
      ·show Act.put _ (some 60) _ = _
       simp only [Act.put, List.setIfInBounds_toArray, List.set_cons_zero, List.set_cons_succ, i64_w, i32_w]
       rfl
      refine pure_ (i := 22) (N := some 61) (v := ?_) (a' := ?_) #[true, true, true, true, true, true, true, true, true, true, true, true, true, true, true, true, true, true, true, true, true, true, true, false, false, false, false, false, false, false, false, false] rfl rfl (any_of HT_.out (by kernel_rfl)) (fun _ _ _ h => h) (Or.inl ⟨by rfl, ?_⟩) ?_ ?_
      rotate_left
      ·intro w'
       go_simp
       with_reducible rfl
      rotate_left
      ·simp only [Act.put, List.setIfInBounds_toArray, List.set_cons_zero, List.set_cons_succ, i64_w, i32_w]
       rfl
      refine pure_ (i := 23) (N := some 62) (v := ?_) (a' := ?_) #[true, true, true, true, true, true, true, true, true, true, true, true, true, true, true, true, true, true, true, true, true, true, true, true, false, false, false, false, false, false, false, false] rfl rfl (any_of HT_.out (by kernel_rfl)) (fun _ _ _ h => h) (Or.inl ⟨by rfl, ?_⟩) ?_ ?_
      rotate_left
      ·intro w'
       go_simp
       with_reducible rfl
      rotate_left
      ·simp only [Act.put, List.setIfInBounds_toArray, List.set_cons_zero, List.set_cons_succ, i64_w, i32_w]
       rfl
      refine pure_ (i := 24) (N := some 63) (v := ?_) (a' := ?_) #[true, true, true, true, true, true, true, true, true, true, true, true, true, true, true, true, true, true, true, true, true, true, true, true, true, false, false, false, false, false, false, false] rfl rfl (any_of HT_.out (by kernel_rfl)) (fun _ _ _ h => h) (Or.inl ⟨by rfl, ?_⟩) ?_ ?_
      rotate_left
      ·intro w'
       go_simp
       with_reducible rfl
      rotate_left
      ·simp only [Act.put, List.setIfInBounds_toArray, List.set_cons_zero, List.set_cons_succ, i64_w, i32_w]
       rfl
      refine pure_ (i := 25) (N := some 64) (v := ?_) (a' := ?_) #[true, true, true, true, true, true, true, true, true, true, true, true, true, true, true, true, true, true, true, true, true, true, true, true, true, true, false, false, false, false, false, false] rfl rfl (any_of HT_.out (by kernel_rfl)) (fun _ _ _ h => h) (Or.inl ⟨by rfl, ?_⟩) ?_ ?_
      rotate_left
      ·intro w'
       go_simp
       with_reducible rfl
      rotate_left
      ·simp only [Act.put, List.setIfInBounds_toArray, List.set_cons_zero, List.set_cons_succ, i64_w, i32_w]
       rfl
      refine one_ (i := 26) (N := some 65) #[true, true, true, true, true, true, true, true, true, true, true, true, true, true, true, true, true, true, true, true, true, true, true, true, true, true, true, false, false, false, false, false] rfl rfl (one_of HT_.out (by kernel_rfl)) (by decide) (fun K hK => ?_)
      refine goes_ Tryd.func35 (by kernel_rfl) rfl #[.slice Ao31 t258.length co31, .slice A1 l1.length c1] (by rfl) rfl rfl (by (try simp only [List.map_toArray, List.map_cons, List.map_nil]); first | done | rfl | (simp only [List.length_drop, List.length_take]; rfl)) ?_
      with_reducible refine (pinfoldlaw0_KeptLeases.calls k _ _ t258 _ _ l1 true _ ?side1 ?side2 ?side3 ?side4 A18.out).mono ?_
      (case side1 => repeat (first | exact (Kd.R_reads' HO260.out).2.2 | exact (pinfoldlaw0_LendLeases.lent HO260.out).1 |  (with_reducible refine c1_ ?_ _) | (with_reducible refine c2_ ?_ _) | (with_reducible refine c3_ ?_)))
      (case side2 => first | exact (Kd.R_reads' HO260.out).2.1 | exact (pinfoldlaw0_LendLeases.lent HO260.out).2)
      (case side3 => repeat (first | exact (c4_ HR1.out HB.out) | (with_reducible refine c1_ ?_ _) | (with_reducible refine c2_ ?_ _) | (with_reducible refine c3_ ?_)))
      (case side4 => exact HC1.out)
      rintro e w' ⟨rfl, ⟨nd, rfl⟩⟩
      refine ⟨_, rfl, ?_⟩
      refine hK.out _ _ ⟨(bc_ BK261.out 0).trans rfl, (bc_ BK261.out 1).trans rfl, (bc_ BK261.out 2).trans rfl, (bc_ BK261.out 3).trans rfl, (bc_ BK261.out 4).trans rfl, (bc_ BK261.out 5).trans rfl, (bc_ BK261.out 6).trans rfl, (bc_ BK244.out 0).trans rfl, (bc_ BK244.out 1).trans rfl, (bc_ BK244.out 2).trans rfl, (bc_ BK244.out 3).trans rfl, (bc_ BK244.out 4).trans rfl, (bc_ BK244.out 5).trans rfl, (bc_ BK244.out 6).trans rfl⟩ (fun hHeld => ?_)
      clear hK K
      refine norm_ (a' := ?_) ?_ ?_
      rotate_left
      ·show Act.put _ (some 65) _ = _
       simp only [Act.put, List.setIfInBounds_toArray, List.set_cons_zero, List.set_cons_succ, i64_w, i32_w]
       rfl
      refine pure_ (i := 27) (N := some 66) (v := ?_) (a' := ?_) #[true, true, true, true, true, true, true, true, true, true, true, true, true, true, true, true, true, true, true, true, true, true, true, true, true, true, true, true, false, false, false, false] rfl rfl (any_of HT_.out (by kernel_rfl)) (fun _ _ _ h => h) (Or.inl ⟨by rfl, ?_⟩) ?_ ?_
      rotate_left
      ·intro w'
       go_simp
       with_reducible rfl
      rotate_left
      ·simp only [Act.put, List.setIfInBounds_toArray, List.set_cons_zero, List.set_cons_succ, i64_w, i32_w]
       rfl
      refine pure_ (i := 28) (N := some 67) (v := ?_) (a' := ?_) #[true, true, true, true, true, true, true, true, true, true, true, true, true, true, true, true, true, true, true, true, true, true, true, true, true, true, true, true, true, false, false, false] rfl rfl (any_of HT_.out (by kernel_rfl)) (fun _ _ _ h => h) (Or.inl ⟨by rfl, ?_⟩) ?_ ?_
      rotate_left
      ·intro w'
       go_simp
       with_reducible rfl
      rotate_left
      ·simp only [Act.put, List.setIfInBounds_toArray, List.set_cons_zero, List.set_cons_succ, i64_w, i32_w]
       rfl
      refine one_ (i := 29) (N := some 68) #[true, true, true, true, true, true, true, true, true, true, true, true, true, true, true, true, true, true, true, true, true, true, true, true, true, true, true, true, true, true, false, false] rfl rfl (one_of HT_.out (by kernel_rfl)) (by decide) (fun K hK => ?_)
      refine goes_ Tryd.func36 (by kernel_rfl) rfl #[] (by rfl) rfl rfl (by (try simp only [List.map_toArray, List.map_cons, List.map_nil]); first | done | rfl | (simp only [List.length_drop, List.length_take]; rfl)) ?_
      with_reducible refine (pinfoldlaw16_awake.calls  t271 _ A20.out).mono ?_
      rintro e w39 ⟨rfl, hb⟩
      refine ⟨_, rfl, ?_⟩
      have n0_ := am_ (Kd.R_below (by (with_reducible repeat (first | apply r1_ | apply r2_ | apply r3_)); exact HO249.out) hb)
      have n1_ := am_ (Kd.R_below (by (with_reducible repeat (first | apply r1_ | apply r2_ | apply r3_)); exact HO252.out) hb)
      have n2_ := am_ (Kd.R_below (by (with_reducible repeat (first | apply r1_ | apply r2_ | apply r3_)); exact HO257.out) hb)
      have n3_ := am_ (Kd.R_below (by (with_reducible repeat (first | apply r1_ | apply r2_ | apply r3_)); exact HO260.out) hb)
      have n4_ := am_ (kb_ (g := gb244) (o := .cells #[.int .i64 a0_0, .int .i64 a0_1, .slice A0_2 l0_2.length c0_2, .slice A0_3 l0_3.length c0_3, .int .i64 a0_4, .string a0_5, .slice A0_6 l0_6.length c0_6] 26 (0, 0)) (by (with_reducible repeat (first | refine k2_ ?_ _ | refine k3_ ?_ | refine k1_ ?_ _)); exact BK244.out) hb)
      have n5_ := am_ (kb_ (g := gb261) (o := .cells #[.int .i64 t245, .int .i64 t246, .slice Ao28 t247.length co28, .slice Ao29 t250.length co29, .int .i64 t253, .string t254, .slice Ao30 t255.length co30] 26 (0, 0)) (by (with_reducible repeat (first | refine k2_ ?_ _ | refine k3_ ?_ | refine k1_ ?_ _)); exact BK261.out) hb)
      have n6_ := am_ (bt_ (by repeat (with_reducible first | exact HB.out | apply p3_ | apply p1_ | apply p2_ | refine bs_ ?_ GE244.out | refine bs_ ?_ GE261.out)) hb)
      clear HO249
      clear HO252
      clear HO257
      clear HO260
      clear BK244
      clear BK261
      clear HB
      have HO249 := n0_
      have HO252 := n1_
      have HO257 := n2_
      have HO260 := n3_
      have BK244 := n4_
      have BK261 := n5_
      have HB := n6_
      clear n0_ n1_ n2_ n3_ n4_ n5_ n6_
      (try clear hb)
      (try clear hb2)
      (try clear hk)
      (try clear hi)
      refine hK.out _ _ ⟨(bc_ BK261.out 0).trans rfl, (bc_ BK261.out 1).trans rfl, (bc_ BK261.out 2).trans rfl, (bc_ BK261.out 3).trans rfl, (bc_ BK261.out 4).trans rfl, (bc_ BK261.out 5).trans rfl, (bc_ BK261.out 6).trans rfl, (bc_ BK244.out 0).trans rfl, (bc_ BK244.out 1).trans rfl, (bc_ BK244.out 2).trans rfl, (bc_ BK244.out 3).trans rfl, (bc_ BK244.out 4).trans rfl, (bc_ BK244.out 5).trans rfl, (bc_ BK244.out 6).trans rfl⟩ (fun hHeld => ?_)
      clear hK K
      refine norm_ (a' := ?_) ?_ ?_
      rotate_left
      ·show Act.put _ (some 68) _ = _
       simp only [Act.put, List.setIfInBounds_toArray, List.set_cons_zero, List.set_cons_succ, i64_w, i32_w]
       rfl
      refine pure_ (i := 30) (N := some 69) (v := ?_) (a' := ?_) #[true, true, true, true, true, true, true, true, true, true, true, true, true, true, true, true, true, true, true, true, true, true, true, true, true, true, true, true, true, true, true, false] rfl rfl (any_of HT_.out (by kernel_rfl)) (fun _ _ _ h => h) (Or.inl ⟨by rfl, ?_⟩) ?_ ?_
      rotate_left
      ·intro w'
       go_simp
       with_reducible rfl
      rotate_left
      ·simp only [Act.put, List.setIfInBounds_toArray, List.set_cons_zero, List.set_cons_succ, i64_w, i32_w]
       rfl
      refine pure_ (i := 31) (N := some 10) (v := ?_) (a' := ?_) #[true, true, true, true, true, true, true, true, true, true, true, true, true, true, true, true, true, true, true, true, true, true, true, true, true, true, true, true, true, true, true, true] rfl rfl (any_of HT_.out (by kernel_rfl)) (fun _ _ _ h => h) (Or.inl ⟨by rfl, ?_⟩) ?_ ?_
      rotate_left
      ·intro w'
       go_simp
       with_reducible rfl
      rotate_left
      ·simp only [Act.put, List.setIfInBounds_toArray, List.set_cons_zero, List.set_cons_succ, i64_w, i32_w]
       rfl
      refine done_ (done_of HT_.out (by kernel_rfl)) ?_
      try go_wp2
      go_ret
      exact ⟨by first | rfl | (simp [errW_none, errW_some] <;> rfl) | (simp [*, errW_none, errW_some] <;> rfl), by repeat (with_reducible first | exact HB.out | apply p3_ | apply p1_ | apply p2_ | refine bs_ ?_ GE244.out | refine bs_ ?_ GE261.out)⟩
     replace c19 := e3_ c19
     subst c19
     have H1 : (none) = some r := by rw [if_neg (show ¬ (false = true) by decide)] at H; exact H
     clear H
     have H := H1
     clear H1
     exact absurd H (by simp)
    replace c17 := e3_ c17
    subst c17
    have H1 : (none) = some r := by rw [if_neg (show ¬ (false = true) by decide)] at H; exact H
    clear H
    have H := H1
    clear H1
    exact absurd H (by simp)
   rw [if_neg c15] at H
   have c15b0 : (t267.toList == t268.toList) = false := e2_ c15
   have c15b1 : (t267.toList != t268.toList) = true := bne_iff_ne.mpr c15
   exact absurd H (by simp)
  rw [if_neg c12] at H
  have c12b0 : (t266 == t265) = false := e2_ c12
  have c12b1 : (t266 != t265) = true := bne_iff_ne.mpr c12
  exact absurd H (by simp)
 rw [if_neg c10] at H
 have c10b0 : (t262 == t264) = false := by simpa using c10
 (try (have c10b1 : decide (t262 = t264) = false := by simpa using c10))
 (try (have c10b2 : (t262 == t264) = false := by simpa using c10))
 (try (have c10b3 : ¬ (t262 = t264) := by simpa using c10))
 clear c10
 exact absurd H (by simp)

/-- THE ONE PURE STATEMENT of pinfoldlaw16_Regises. -/
def pinfoldlaw16_Regises.Pure : Prop := ∀ (a0_0 : Int) (a0_1 : Int) (l0_2 : List Int) (l0_3 : List (S47)) (a0_4 : Int) (a0_5 : ByteArray) (l0_6 : List (S49)) (l1 : List (S62)) (a2 : Int) (a3 : ByteArray) (a4 : ByteArray), (Lit.int .i64 a0_0).wf = true → (Lit.int .i64 a0_1).wf = true → (l0_2.length ≤ 1048576 ∧ ∀ y0_ ∈ l0_2, (Lit.int .i64 y0_).wf = true) → (l0_3.length ≤ 1048576 ∧ ∀ y0_ ∈ l0_3, (y0_.f0.size ≤ 1048576 ∧ (Lit.int .i64 y0_.f1).wf = true)) → (Lit.int .i64 a0_4).wf = true → a0_5.size ≤ 1048576 → (l0_6.length ≤ 1048576 ∧ ∀ y0_ ∈ l0_6, (y0_.f0.size ≤ 1048576 ∧ ((Lit.int .i64 y0_.f1).wf = true ∧ ((Lit.int .i64 y0_.f2).wf = true ∧ ((Lit.int .i64 y0_.f3).wf = true ∧ (y0_.f4.size ≤ 1048576 ∧ (y0_.f5.size ≤ 1048576 ∧ (Lit.int .i64 y0_.f6).wf = true))))))) → (l1.length ≤ 1048576 ∧ ∀ y0_ ∈ l1, ((Lit.int .i64 y0_.f0).wf = true ∧ ((Lit.int .i64 y0_.f1).wf = true ∧ (y0_.f2.size ≤ 1048576 ∧ ((Lit.int .i64 y0_.f3).wf = true ∧ (y0_.f4.size ≤ 1048576 ∧ True)))))) → (Lit.int .i64 a2).wf = true → a3.size ≤ 1048576 → a4.size ≤ 1048576 → ∃ k, pinfoldlaw16_Regises.f k a0_0 a0_1 l0_2 l0_3 a0_4 a0_5 l0_6 l1 a2 a3 a4 = some true
theorem pinfoldlaw16_Regises.walk (P : pinfoldlaw16_Regises.Pure) (a0_0 : Int) (a0_1 : Int) (A0_2 : Option Addr) (c0_2 : Nat) (l0_2 : List Int) (A0_3 : Option Addr) (c0_3 : Nat) (l0_3 : List (S47)) (a0_4 : Int) (a0_5 : ByteArray) (A0_6 : Option Addr) (c0_6 : Nat) (l0_6 : List (S49)) (A1 : Option Addr) (c1 : Nat) (l1 : List (S62)) (a2 : Int) (a3 : ByteArray) (a4 : ByteArray) (w : World) (hr0_2 : Kd.C (Kd.int .i64) w A0_2 l0_2.length l0_2) (hc0_2 : l0_2.length ≤ c0_2) (hr0_3 : Kd.C k47 w A0_3 l0_3.length l0_3) (hc0_3 : l0_3.length ≤ c0_3) (hr0_6 : Kd.C k49 w A0_6 l0_6.length l0_6) (hc0_6 : l0_6.length ≤ c0_6) (hr1 : Kd.C k62 w A1 l1.length l1) (hc1 : l1.length ≤ c1) (w0_0 : (Lit.int .i64 a0_0).wf = true) (w0_1 : (Lit.int .i64 a0_1).wf = true) (w0_2 : (l0_2.length ≤ 1048576 ∧ ∀ y0_ ∈ l0_2, (Lit.int .i64 y0_).wf = true)) (w0_3 : (l0_3.length ≤ 1048576 ∧ ∀ y0_ ∈ l0_3, (y0_.f0.size ≤ 1048576 ∧ (Lit.int .i64 y0_.f1).wf = true))) (w0_4 : (Lit.int .i64 a0_4).wf = true) (w0_5 : a0_5.size ≤ 1048576) (w0_6 : (l0_6.length ≤ 1048576 ∧ ∀ y0_ ∈ l0_6, (y0_.f0.size ≤ 1048576 ∧ ((Lit.int .i64 y0_.f1).wf = true ∧ ((Lit.int .i64 y0_.f2).wf = true ∧ ((Lit.int .i64 y0_.f3).wf = true ∧ (y0_.f4.size ≤ 1048576 ∧ (y0_.f5.size ≤ 1048576 ∧ (Lit.int .i64 y0_.f6).wf = true)))))))) (w1 : (l1.length ≤ 1048576 ∧ ∀ y0_ ∈ l1, ((Lit.int .i64 y0_.f0).wf = true ∧ ((Lit.int .i64 y0_.f1).wf = true ∧ (y0_.f2.size ≤ 1048576 ∧ ((Lit.int .i64 y0_.f3).wf = true ∧ (y0_.f4.size ≤ 1048576 ∧ True))))))) (w2 : (Lit.int .i64 a2).wf = true) (w3 : a3.size ≤ 1048576) (w4 : a4.size ≤ 1048576) :
  Calls Tryd.prog 8 #[.agg #[.int .i64 a0_0, .int .i64 a0_1, .slice A0_2 l0_2.length c0_2, .slice A0_3 l0_3.length c0_3, .int .i64 a0_4, .string a0_5, .slice A0_6 l0_6.length c0_6], .slice A1 l1.length c1, .int .i64 a2, .string a3, .string a4] w fun e w' => e = .returned (.bool true) ∧ Below w.heap.size w w' := by
 obtain ⟨k, h⟩ := P a0_0 a0_1 l0_2 l0_3 a0_4 a0_5 l0_6 l1 a2 a3 a4 w0_0 w0_1 w0_2 w0_3 w0_4 w0_5 w0_6 w1 w2 w3 w4
 refine (pinfoldlaw16_Regises.calls k a0_0 a0_1 _ _ l0_2 _ _ l0_3 a0_4 a0_5 _ _ l0_6 _ _ l1 a2 a3 a4 true w hr0_2 hc0_2 hr0_3 hc0_3 hr0_6 hc0_6 hr1 hc1 h).mono ?_
 rintro e w' ⟨rfl, hd⟩
 exact ⟨rfl, hd⟩

end Go.Proofs.YtnjnfpnkcapilaaDoor.PRegises
