/- The orders of the drawn regions of programs, printed by Plans.lean. -/
import Derived.Test.YtloblhhnlaaajaaDoorV13
import Derived.Test.YtloblhhnlaaajaaDoorV15
import Derived.Test.YtloblhhnlaaajaaDoorV17
import Derived.Test.YtloblhhnlaaajaaDoorV23
import Derived.Test.YtloblhhnlaaajaaDoorV14
import Derived.Test.YtloblhhnlaaajaaDoorV22
set_option linter.unusedVariables false
set_option linter.unusedSimpArgs false
set_option linter.defProp false
namespace Go.Proofs.OP
open Go Go.Ev
def pl14_20 : List (List Stp) := [[⟨0, false, false, []⟩, ⟨1, false, false, []⟩, ⟨2, false, false, []⟩, ⟨3, false, true, []⟩, ⟨4, false, false, []⟩, ⟨5, false, true, []⟩, ⟨6, false, false, []⟩, ⟨7, false, false, []⟩, ⟨8, false, true, []⟩, ⟨9, false, false, []⟩, ⟨10, false, true, []⟩, ⟨11, true, false, []⟩]]
def pl29_7 : List (List Stp) := [[⟨0, false, false, []⟩, ⟨1, false, true, []⟩, ⟨3, false, false, []⟩, ⟨5, false, false, []⟩, ⟨6, false, true, []⟩, ⟨2, true, false, [6]⟩, ⟨4, true, false, [6, 1]⟩, ⟨7, true, false, []⟩, ⟨8, true, false, []⟩, ⟨9, false, false, []⟩, ⟨10, false, false, []⟩, ⟨11, false, false, []⟩, ⟨12, true, false, [6, 1]⟩, ⟨13, true, false, []⟩, ⟨14, true, false, []⟩], [⟨0, false, false, []⟩, ⟨1, false, true, []⟩, ⟨3, false, false, []⟩, ⟨5, false, false, []⟩, ⟨6, false, true, []⟩, ⟨2, true, false, [6]⟩, ⟨4, true, false, [6, 1]⟩, ⟨7, true, false, []⟩, ⟨12, true, false, [6, 1]⟩, ⟨8, true, false, []⟩, ⟨9, false, false, []⟩, ⟨10, false, false, []⟩, ⟨11, false, false, []⟩, ⟨13, true, false, []⟩, ⟨14, true, false, []⟩], [⟨0, false, false, []⟩, ⟨1, false, true, []⟩, ⟨3, false, false, []⟩, ⟨5, false, false, []⟩, ⟨6, false, true, []⟩, ⟨2, true, false, [6]⟩, ⟨4, true, false, [6, 1]⟩, ⟨12, true, false, [6, 1]⟩, ⟨7, true, false, []⟩, ⟨8, true, false, []⟩, ⟨9, false, false, []⟩, ⟨10, false, false, []⟩, ⟨11, false, false, []⟩, ⟨13, true, false, []⟩, ⟨14, true, false, []⟩], [⟨0, false, false, []⟩, ⟨1, false, true, []⟩, ⟨3, false, false, []⟩, ⟨5, false, false, []⟩, ⟨6, false, true, []⟩, ⟨2, true, false, [6]⟩, ⟨12, true, false, [6, 1]⟩, ⟨4, true, false, [6, 1]⟩, ⟨7, true, false, []⟩, ⟨8, true, false, []⟩, ⟨9, false, false, []⟩, ⟨10, false, false, []⟩, ⟨11, false, false, []⟩, ⟨13, true, false, []⟩, ⟨14, true, false, []⟩], [⟨0, false, false, []⟩, ⟨1, false, true, []⟩, ⟨3, false, false, []⟩, ⟨5, false, false, []⟩, ⟨6, false, true, []⟩, ⟨4, true, false, [6, 1]⟩, ⟨2, true, false, [6]⟩, ⟨7, true, false, []⟩, ⟨8, true, false, []⟩, ⟨9, false, false, []⟩, ⟨10, false, false, []⟩, ⟨11, false, false, []⟩, ⟨12, true, false, [6, 1]⟩, ⟨13, true, false, []⟩, ⟨14, true, false, []⟩], [⟨0, false, false, []⟩, ⟨1, false, true, []⟩, ⟨3, false, false, []⟩, ⟨5, false, false, []⟩, ⟨6, false, true, []⟩, ⟨4, true, false, [6, 1]⟩, ⟨2, true, false, [6]⟩, ⟨7, true, false, []⟩, ⟨12, true, false, [6, 1]⟩, ⟨8, true, false, []⟩, ⟨9, false, false, []⟩, ⟨10, false, false, []⟩, ⟨11, false, false, []⟩, ⟨13, true, false, []⟩, ⟨14, true, false, []⟩], [⟨0, false, false, []⟩, ⟨1, false, true, []⟩, ⟨3, false, false, []⟩, ⟨5, false, false, []⟩, ⟨6, false, true, []⟩, ⟨4, true, false, [6, 1]⟩, ⟨2, true, false, [6]⟩, ⟨12, true, false, [6, 1]⟩, ⟨7, true, false, []⟩, ⟨8, true, false, []⟩, ⟨9, false, false, []⟩, ⟨10, false, false, []⟩, ⟨11, false, false, []⟩, ⟨13, true, false, []⟩, ⟨14, true, false, []⟩], [⟨0, false, false, []⟩, ⟨1, false, true, []⟩, ⟨3, false, false, []⟩, ⟨5, false, false, []⟩, ⟨6, false, true, []⟩, ⟨4, true, false, [6, 1]⟩, ⟨12, true, false, [6, 1]⟩, ⟨2, true, false, [6]⟩, ⟨7, true, false, []⟩, ⟨8, true, false, []⟩, ⟨9, false, false, []⟩, ⟨10, false, false, []⟩, ⟨11, false, false, []⟩, ⟨13, true, false, []⟩, ⟨14, true, false, []⟩], [⟨0, false, false, []⟩, ⟨1, false, true, []⟩, ⟨3, false, false, []⟩, ⟨5, false, false, []⟩, ⟨6, false, true, []⟩, ⟨12, true, false, [6, 1]⟩, ⟨2, true, false, [6]⟩, ⟨4, true, false, [6, 1]⟩, ⟨7, true, false, []⟩, ⟨8, true, false, []⟩, ⟨9, false, false, []⟩, ⟨10, false, false, []⟩, ⟨11, false, false, []⟩, ⟨13, true, false, []⟩, ⟨14, true, false, []⟩], [⟨0, false, false, []⟩, ⟨1, false, true, []⟩, ⟨3, false, false, []⟩, ⟨5, false, false, []⟩, ⟨6, false, true, []⟩, ⟨12, true, false, [6, 1]⟩, ⟨4, true, false, [6, 1]⟩, ⟨2, true, false, [6]⟩, ⟨7, true, false, []⟩, ⟨8, true, false, []⟩, ⟨9, false, false, []⟩, ⟨10, false, false, []⟩, ⟨11, false, false, []⟩, ⟨13, true, false, []⟩, ⟨14, true, false, []⟩]]
def pl29_9 : List (List Stp) := [[⟨0, false, false, []⟩, ⟨1, false, false, []⟩, ⟨2, false, true, []⟩, ⟨3, false, true, []⟩, ⟨4, true, false, [3, 2]⟩, ⟨5, true, false, [3, 2]⟩, ⟨6, true, false, [3]⟩, ⟨7, true, false, []⟩]]
def pl52_4 : List (List Stp) := [[⟨0, false, false, []⟩, ⟨1, false, false, []⟩, ⟨2, false, false, []⟩, ⟨3, false, true, []⟩, ⟨4, false, true, []⟩, ⟨5, false, false, []⟩, ⟨6, false, false, []⟩, ⟨7, false, false, []⟩, ⟨8, false, false, []⟩, ⟨9, false, true, []⟩, ⟨10, false, false, []⟩, ⟨11, false, false, []⟩, ⟨12, false, false, []⟩, ⟨13, false, true, []⟩, ⟨14, false, true, []⟩, ⟨15, false, false, []⟩, ⟨16, false, false, []⟩, ⟨17, false, false, []⟩, ⟨18, false, false, []⟩, ⟨19, false, true, []⟩, ⟨20, false, false, []⟩, ⟨21, false, false, []⟩, ⟨22, false, false, []⟩, ⟨23, false, true, []⟩, ⟨24, false, false, []⟩, ⟨25, false, false, []⟩, ⟨26, false, false, []⟩, ⟨27, false, true, []⟩, ⟨28, false, true, []⟩, ⟨29, false, true, []⟩, ⟨30, false, false, []⟩, ⟨31, false, false, []⟩, ⟨32, false, false, []⟩, ⟨33, false, false, []⟩, ⟨34, false, false, []⟩, ⟨35, false, false, []⟩, ⟨36, false, true, []⟩, ⟨37, false, true, []⟩, ⟨38, false, true, []⟩, ⟨39, false, false, []⟩]]
def pl52_11 : List (List Stp) := [[⟨0, false, false, []⟩, ⟨1, false, true, []⟩, ⟨2, false, false, []⟩, ⟨3, false, false, []⟩, ⟨4, false, false, []⟩, ⟨5, false, true, []⟩, ⟨6, false, true, []⟩, ⟨7, false, false, []⟩, ⟨8, false, false, []⟩, ⟨9, false, true, []⟩, ⟨10, false, false, []⟩, ⟨11, false, false, []⟩, ⟨12, false, false, []⟩, ⟨13, false, true, []⟩, ⟨14, false, false, []⟩, ⟨15, false, true, []⟩, ⟨16, false, true, []⟩, ⟨17, false, false, []⟩]]
def pl52_18 : List (List Stp) := [[⟨0, false, false, []⟩, ⟨1, false, true, []⟩, ⟨2, false, false, []⟩, ⟨3, false, false, []⟩, ⟨4, false, false, []⟩, ⟨5, false, true, []⟩, ⟨6, false, true, []⟩, ⟨7, false, false, []⟩, ⟨8, false, false, []⟩, ⟨9, false, true, []⟩, ⟨10, false, false, []⟩, ⟨11, false, false, []⟩, ⟨12, false, false, []⟩, ⟨13, false, true, []⟩, ⟨14, false, false, []⟩, ⟨15, false, true, []⟩, ⟨16, false, true, []⟩, ⟨17, false, true, []⟩, ⟨18, false, false, []⟩, ⟨19, false, false, []⟩, ⟨20, false, false, []⟩, ⟨21, false, true, []⟩, ⟨22, false, true, []⟩, ⟨23, false, true, []⟩, ⟨24, false, false, []⟩, ⟨25, false, false, []⟩, ⟨26, false, false, []⟩, ⟨27, false, true, []⟩, ⟨28, false, true, []⟩, ⟨29, false, false, []⟩, ⟨30, false, false, []⟩, ⟨31, false, false, []⟩, ⟨32, false, true, []⟩, ⟨33, false, true, []⟩, ⟨34, false, false, []⟩, ⟨35, false, false, []⟩, ⟨36, false, false, []⟩, ⟨37, false, false, []⟩, ⟨38, false, true, []⟩, ⟨39, false, true, []⟩, ⟨40, false, false, []⟩]]
def pl58_7 : List (List Stp) := [[⟨0, false, false, []⟩, ⟨1, false, true, []⟩, ⟨2, true, false, []⟩, ⟨3, false, true, []⟩, ⟨4, false, false, []⟩, ⟨5, false, false, []⟩, ⟨6, false, true, []⟩, ⟨7, false, false, []⟩, ⟨8, false, false, []⟩, ⟨9, false, true, []⟩, ⟨10, false, false, []⟩, ⟨11, false, true, []⟩, ⟨12, false, false, []⟩, ⟨13, false, true, []⟩, ⟨14, false, false, []⟩, ⟨15, false, false, []⟩, ⟨16, false, true, []⟩, ⟨17, false, true, []⟩, ⟨18, false, false, []⟩, ⟨19, false, false, []⟩, ⟨20, false, false, []⟩, ⟨21, false, false, []⟩, ⟨22, false, true, []⟩, ⟨23, false, false, []⟩, ⟨24, false, true, []⟩, ⟨25, false, true, []⟩, ⟨26, false, false, []⟩, ⟨27, false, false, []⟩, ⟨28, false, false, []⟩, ⟨29, false, true, []⟩, ⟨30, false, false, []⟩, ⟨31, false, true, []⟩, ⟨32, false, false, []⟩, ⟨33, false, true, []⟩, ⟨34, false, true, []⟩, ⟨35, false, false, []⟩]]
def pl58_13 : List (List Stp) := [[⟨0, false, false, []⟩, ⟨1, false, true, []⟩, ⟨2, true, false, []⟩, ⟨3, false, true, []⟩, ⟨4, false, false, []⟩, ⟨5, false, false, []⟩, ⟨6, false, true, []⟩, ⟨7, false, false, []⟩, ⟨8, false, false, []⟩, ⟨9, false, true, []⟩, ⟨10, false, false, []⟩, ⟨11, false, true, []⟩, ⟨12, false, false, []⟩, ⟨13, false, true, []⟩, ⟨14, false, false, []⟩, ⟨15, false, false, []⟩, ⟨16, false, true, []⟩, ⟨17, false, true, []⟩, ⟨18, false, false, []⟩, ⟨19, false, false, []⟩, ⟨20, false, false, []⟩, ⟨21, false, false, []⟩, ⟨22, false, true, []⟩, ⟨23, false, false, []⟩, ⟨24, false, true, []⟩, ⟨25, false, true, []⟩, ⟨26, false, false, []⟩, ⟨27, false, false, []⟩, ⟨28, false, false, []⟩, ⟨29, false, true, []⟩, ⟨30, false, false, []⟩, ⟨31, false, true, []⟩, ⟨32, false, false, []⟩, ⟨33, false, true, []⟩, ⟨34, false, true, []⟩, ⟨35, false, true, []⟩, ⟨36, false, false, []⟩, ⟨37, false, false, []⟩, ⟨38, false, false, []⟩, ⟨39, false, true, []⟩, ⟨40, false, true, []⟩, ⟨41, false, true, []⟩, ⟨42, false, false, []⟩, ⟨43, false, false, []⟩, ⟨44, false, false, []⟩, ⟨45, false, true, []⟩, ⟨46, false, true, []⟩, ⟨47, false, false, []⟩, ⟨48, false, false, []⟩, ⟨49, false, false, []⟩, ⟨50, false, true, []⟩, ⟨51, false, true, []⟩, ⟨52, false, false, []⟩]]
def pl58_18 : List (List Stp) := [[⟨0, false, false, []⟩, ⟨1, false, true, []⟩, ⟨2, false, false, []⟩, ⟨3, false, false, []⟩, ⟨4, false, false, []⟩, ⟨5, false, true, []⟩, ⟨6, false, false, []⟩, ⟨7, false, true, []⟩, ⟨8, false, true, []⟩]]
def pl77_3 : List (List Stp) := [[⟨0, false, true, []⟩, ⟨1, true, false, [0]⟩, ⟨2, true, false, []⟩]]
def pl77_18 : List (List Stp) := [[⟨0, false, false, []⟩, ⟨1, false, false, []⟩, ⟨2, false, false, []⟩, ⟨3, false, false, []⟩, ⟨4, false, true, []⟩, ⟨5, false, true, []⟩, ⟨6, false, true, []⟩, ⟨7, false, false, []⟩, ⟨8, false, true, []⟩, ⟨12, false, false, []⟩, ⟨13, false, true, []⟩, ⟨9, true, false, [13, 4]⟩, ⟨10, true, false, [13, 4]⟩, ⟨11, true, false, [13]⟩, ⟨14, true, false, [8, 6, 5, 4]⟩, ⟨15, true, false, []⟩, ⟨16, false, false, []⟩, ⟨17, false, false, []⟩, ⟨18, true, false, []⟩, ⟨19, true, false, []⟩], [⟨0, false, false, []⟩, ⟨1, false, false, []⟩, ⟨2, false, false, []⟩, ⟨3, false, false, []⟩, ⟨4, false, true, []⟩, ⟨5, false, true, []⟩, ⟨6, false, true, []⟩, ⟨7, false, false, []⟩, ⟨8, false, true, []⟩, ⟨12, false, false, []⟩, ⟨13, false, true, []⟩, ⟨9, true, false, [13, 4]⟩, ⟨10, true, false, [13, 4]⟩, ⟨14, true, false, [8, 6, 5, 4]⟩, ⟨11, true, false, [13]⟩, ⟨15, true, false, []⟩, ⟨16, false, false, []⟩, ⟨17, false, false, []⟩, ⟨18, true, false, []⟩, ⟨19, true, false, []⟩], [⟨0, false, false, []⟩, ⟨1, false, false, []⟩, ⟨2, false, false, []⟩, ⟨3, false, false, []⟩, ⟨4, false, true, []⟩, ⟨5, false, true, []⟩, ⟨6, false, true, []⟩, ⟨7, false, false, []⟩, ⟨8, false, true, []⟩, ⟨12, false, false, []⟩, ⟨13, false, true, []⟩, ⟨9, true, false, [13, 4]⟩, ⟨14, true, false, [8, 6, 5, 4]⟩, ⟨10, true, false, [13, 4]⟩, ⟨11, true, false, [13]⟩, ⟨15, true, false, []⟩, ⟨16, false, false, []⟩, ⟨17, false, false, []⟩, ⟨18, true, false, []⟩, ⟨19, true, false, []⟩], [⟨0, false, false, []⟩, ⟨1, false, false, []⟩, ⟨2, false, false, []⟩, ⟨3, false, false, []⟩, ⟨4, false, true, []⟩, ⟨5, false, true, []⟩, ⟨6, false, true, []⟩, ⟨7, false, false, []⟩, ⟨8, false, true, []⟩, ⟨12, false, false, []⟩, ⟨13, false, true, []⟩, ⟨14, true, false, [8, 6, 5, 4]⟩, ⟨9, true, false, [13, 4]⟩, ⟨10, true, false, [13, 4]⟩, ⟨11, true, false, [13]⟩, ⟨15, true, false, []⟩, ⟨16, false, false, []⟩, ⟨17, false, false, []⟩, ⟨18, true, false, []⟩, ⟨19, true, false, []⟩]]
def pl78_40 : List (List Stp) := [[⟨0, false, false, []⟩, ⟨1, false, false, []⟩, ⟨2, false, false, []⟩, ⟨3, false, true, []⟩, ⟨4, false, false, []⟩, ⟨5, true, false, [3]⟩, ⟨6, true, false, []⟩]]
def pl78_55 : List (List Stp) := [[⟨0, false, false, []⟩, ⟨1, false, false, []⟩, ⟨2, false, false, []⟩, ⟨3, false, false, []⟩, ⟨4, false, true, []⟩, ⟨5, false, true, []⟩, ⟨6, true, false, [4]⟩, ⟨7, true, false, [4]⟩, ⟨8, true, false, []⟩, ⟨9, false, false, []⟩, ⟨10, false, false, []⟩, ⟨11, true, false, []⟩]]
def pl93_1 : List (List Stp) := [[⟨1, false, false, []⟩, ⟨2, false, false, []⟩, ⟨3, false, false, []⟩, ⟨4, false, true, []⟩, ⟨5, false, false, []⟩, ⟨6, false, true, []⟩, ⟨7, false, false, []⟩, ⟨8, false, false, []⟩, ⟨9, false, false, []⟩, ⟨10, false, true, []⟩, ⟨11, false, true, []⟩, ⟨12, false, false, []⟩, ⟨13, false, false, []⟩, ⟨14, false, true, []⟩, ⟨15, false, true, []⟩, ⟨0, true, false, [15, 14, 11, 10, 6, 4]⟩, ⟨16, true, false, []⟩]]
def pl102_1 : List (List Stp) := [[⟨0, false, false, []⟩, ⟨1, false, true, []⟩, ⟨3, false, false, []⟩, ⟨4, false, true, []⟩, ⟨6, false, false, []⟩, ⟨7, false, true, []⟩, ⟨9, false, false, []⟩, ⟨10, false, true, []⟩, ⟨2, true, false, [10, 7, 4]⟩, ⟨12, false, false, []⟩, ⟨5, true, false, [10, 7]⟩, ⟨8, true, false, [10]⟩, ⟨11, true, false, []⟩, ⟨13, true, false, []⟩, ⟨14, false, false, []⟩, ⟨15, true, false, []⟩, ⟨16, false, false, []⟩, ⟨17, true, false, []⟩, ⟨18, false, false, []⟩, ⟨19, true, false, []⟩]]
def pl106_1 : List (List Stp) := [[⟨0, false, true, []⟩, ⟨1, false, true, []⟩, ⟨2, false, true, []⟩, ⟨3, false, false, []⟩, ⟨4, false, true, []⟩, ⟨5, true, false, []⟩, ⟨6, true, false, []⟩]]
def pl108_1 : List (List Stp) := [[⟨1, false, false, []⟩, ⟨2, false, true, []⟩, ⟨5, false, false, []⟩, ⟨6, false, true, []⟩, ⟨0, true, false, [6, 2]⟩, ⟨3, true, false, [6]⟩, ⟨8, false, false, []⟩, ⟨4, true, false, [6, 2]⟩, ⟨7, true, false, []⟩, ⟨9, true, false, []⟩, ⟨10, false, false, []⟩, ⟨11, true, false, []⟩], [⟨1, false, false, []⟩, ⟨2, false, true, []⟩, ⟨5, false, false, []⟩, ⟨6, false, true, []⟩, ⟨0, true, false, [6, 2]⟩, ⟨4, true, false, [6, 2]⟩, ⟨3, true, false, [6]⟩, ⟨8, false, false, []⟩, ⟨7, true, false, []⟩, ⟨9, true, false, []⟩, ⟨10, false, false, []⟩, ⟨11, true, false, []⟩], [⟨1, false, false, []⟩, ⟨2, false, true, []⟩, ⟨5, false, false, []⟩, ⟨6, false, true, []⟩, ⟨4, true, false, [6, 2]⟩, ⟨0, true, false, [6, 2]⟩, ⟨3, true, false, [6]⟩, ⟨8, false, false, []⟩, ⟨7, true, false, []⟩, ⟨9, true, false, []⟩, ⟨10, false, false, []⟩, ⟨11, true, false, []⟩]]
end Go.Proofs.OP

set_option linter.unusedSimpArgs false
namespace Go.Proofs.OP
open Go Go.Ev
open Go.Proofs
open Nat (reduceLT reduceEqDiff)
variable {g : T (List V)}

instance : DecidableEq ExpD := fun a b => if h : a.name = b.name ∧ a.addr = b.addr then isTrue (by cases a; cases b; simp at h; simp [h]) else isFalse (by rintro rfl; simp at h)
instance : DecidableEq SlotD := fun a b => if h : a.name = b.name ∧ a.addr = b.addr ∧ a.bound = b.bound then isTrue (by cases a; cases b; simp at h; simp [h]) else isFalse (by rintro rfl; simp at h)
end Go.Proofs.OP

namespace Go.Ev
open Go
section
variable {E : Env}
def Mi (h : H) (b : Nat) (L : List Int) : Prop := ∃ es c, h.t.get b = some (.map es c) ∧ es.map (fun e => (e.1, e.2.1)) = L.map (fun p => (V.int .i64 p, V.bool true))
theorem Mi.fix {h h' : H} {K : Nat → Prop} {b : Nat} {L : List Int} (m : Mi h b L) (f : Fix K h h') (hb : K b) : Mi h' b L := by
 obtain ⟨es, c, h1, h2⟩ := m
 exact ⟨es, c, by rw [f.same b hb]; exact h1, h2⟩
theorem find_int {h : H} {k : Int} : ∀ {L : List Int} {es : List (V × V × Nat)} {i : Nat}, es.map (fun e => (e.1, e.2.1)) = L.map (fun p => (V.int .i64 p, V.bool true)) →
  match L.contains k with
  | false => findK E h (.int .i64) (.int .i64 k) es i = some none
  | true => ∃ j born, findK E h (.int .i64) (.int .i64 k) es i = some (some (j, .bool true, born))
 | [], [], i, _ => rfl
 | [], e :: es, i, he => by simp at he
 | p :: L, [], i, he => by simp at he
 | p :: L, (ek, ev, ec) :: es, i, he => by
  simp only [List.map_cons, List.cons.injEq, Prod.mk.injEq] at he
  obtain ⟨⟨e1, e2⟩, e3⟩ := he
  subst e1 e2
  have ih := find_int (h := h) (k := k) (L := L) (es := es) (i := Nat.succ i) e3
  have hk : keyEq E h (.int .i64) (.int .i64 k) (.int .i64 p) = some (decide (k = p)) := rfl
  by_cases hp : k = p
  ·subst hp
   have : (k :: L).contains k = true := by simp
   rw [this]
   refine ⟨i, ec, ?_⟩
   unfold findK
   rw [hk, decide_eq_true rfl]
  ·have : (p :: L).contains k = L.contains k := by simp [List.contains_cons, hp]
   rw [this]
   have hf : findK E h (.int .i64) (.int .i64 k) ((.int .i64 p, .bool true, ec) :: es) i = findK E h (.int .i64) (.int .i64 k) es (Nat.succ i) := by
    conv => lhs; unfold findK
    rw [hk, decide_eq_false hp]
   rw [hf]
   exact ih
section
variable {h : H} {b ty kt et : Nat} {L : List Int} {i ki ei : TI} {k : Int}
theorem lookup_int (m : Mi h b L) (ht : E.tys.get ty = some i) (hd : i.desc = .map kt et) (hk : E.tys.get kt = some ki) (hkd : ki.desc = .int .i64) (he : E.tys.get et = some ei) (hz : ei.zeroV = some (.bool false)) :
  lookupV E h ty (.map b) (.int .i64 k) false = some (.bool (L.contains k)) := by
 obtain ⟨es, c, h1, h2⟩ := m
 have := find_int (E := E) (h := h) (k := k) (i := 0) h2
 simp only [lookupV, mapOf, ht, hd, hk, he, hkd, okKey, cond_true, mapEnts, h1]
 cases hl : L.contains k with
 | false => rw [hl] at this; simp only [this, hz, Option.map_some]; rfl
 | true =>
  rw [hl] at this
  obtain ⟨j, born, q1⟩ := this
  simp only [q1]; rfl
theorem sat_update_int {Q : V → H → Prop} (m : Mi h b L) (hn : L.contains k = false) (ht : E.tys.get ty = some i) (hd : i.desc = .map kt et) (hk : E.tys.get kt = some ki) (hkd : ki.desc = .int .i64) (he : E.tys.get et = some ei)
  (q : ∀ h', Mi h' b (L ++ [k]) → h'.next = h.next → Fix (· ≠ b) h h' → Q un h') : Sat1 (rh (updateV E h ty (.map b) (.int .i64 k) (.bool true))) Q := by
 obtain ⟨es, c, h1, h2⟩ := m
 have := find_int (E := E) (h := h) (k := k) (i := 0) h2
 rw [hn] at this
 simp only [updateV, mapOf, ht, hd, hk, he, hkd, okKey, cond_true, h1, this, sat_rh]
 exact q _ ⟨_, _, by simp only [H.put, T.get_set, if_true]; rfl, by simp [h2]⟩ rfl ⟨Nat.le_refl _, fun c hc => by simp only [H.put, T.get_set]; rw [if_neg hc]⟩
theorem wop_makeMap_int {fr : Fr} {d : Option Nat} {ty t : Nat} {p : String} {a : Array Edge} {g : Option (Nat × Bool)} {Q : V → H → Prop}
  (q : ∀ h', Mi h' h.next [] → h'.next = h.next + 1 → Fix (· < h.next) h h' → Q (.map h.next) h') : WOp E fr h ⟨d, .makeMap ty none, t, p, a, g⟩ Q := by
 show Sat1 (rone (.map h.next, { t := h.t.set h.next (.map [] 0), next := Nat.succ h.next })) Q
 rw [sat_rone]
 exact q _ ⟨[], 0, by simp only [T.get_set, if_true], rfl⟩ rfl ⟨Nat.le_succ _, fun c hc => by simp only [T.get_set]; rw [if_neg (Nat.ne_of_lt hc)]⟩
end
def leS (a b : List UInt8) : Bool := Op.bytesLess a b || a == b
theorem bin_sleq {h : H} {c : Bool} {t : Nat} {a b : List UInt8} : binV E h c .leq t (.str a) (.str b) = some (.bool (leS a b)) := rfl
end
def allB (p : Nat → Bool) (n : Nat) : Bool := (List.range n).all p
theorem allB_false {p : Nat → Bool} {n i : Nat} (hi : i < n) (h : p i = false) : allB p n = false := by
 cases hq : allB p n with
 | false => rfl
 | true => rw [allB, List.all_eq_true] at hq; rw [hq i (List.mem_range.2 hi)] at h; cases h
theorem allB_true {p : Nat → Bool} {n : Nat} (h : ∀ j, j < n → p j = true) : allB p n = true := by
 rw [allB, List.all_eq_true]; exact fun j hj => h j (List.mem_range.1 hj)
theorem allB_at {p : Nat → Bool} {n i : Nat} (h : allB p n = true) (hi : i < n) : p i = true := by
 rw [allB, List.all_eq_true] at h; exact h i (List.mem_range.2 hi)
theorem below_succ {p : Nat → Prop} {i : Nat} (h : ∀ j, j < i → p j) (hi : p i) : ∀ j, j < i + 1 → p j := fun j hj => by
 rcases Nat.lt_succ_iff_lt_or_eq.1 hj with q | rfl
 ·exact h j q
 ·exact hi
end Go.Ev

set_option linter.unusedSimpArgs false
namespace Go.Proofs.OP
open Go Go.Ev
open Go.Proofs
open Nat (reduceLT reduceEqDiff)
variable {g : T (List V)}

def incP (L : List (List UInt8)) (i : Nat) : Bool := match L[i]? with
 | none => true
 | some s => decide (nameE s = 0) && (decide (i = 0) || match L[i - 1]? with
  | none => true
  | some p => !leS s p)
def incB (L : List (List UInt8)) : Bool := allB (incP L) L.length && decide ((L.length : Int) ≤ 5000)

theorem named0_ok {h : H} {s : List UInt8} : WF (E g) 80 [.str s, .bool false] h fun v h' => v = .int .i64 (nameE s) ∧ h' = h :=
 named_ok.mono fun v h' ⟨e, f⟩ => ⟨by rw [e]; rfl, f⟩
set_option maxRecDepth 100000 in
set_option maxHeartbeats 4000000 in
theorem increasing_ok {h : H} {s : V} {L : List (List UInt8)} (a : Ss g h s L) (hM : L.length < 2 ^ 62) : WF (E g) 95 [s] h fun v h' => v = .bool (incB L) ∧ h' = h := by
 refine WF.enter fn95 rfl ?_
 ((repeat refine WC.seq ?_); refine WC.run ?_)
 (try simp only [wk, wl, wx, reduceLT, reduceEqDiff, Nat.reduceBEq, reduceIte])
 ((repeat refine WC.seq ?_); refine WC.run ?_)
 (try simp only [wk, wl, wx, reduceLT, reduceEqDiff, Nat.reduceBEq, reduceIte, Sl.lenB a ty30 rfl])
 (repeat refine WC.seq ?_)
 refine WC.block ?_
 refine WC.while (fun m fr hh => ∃ ts i, fr = ⟨ts, 32, [], 95, none⟩ ∧ hh = h ∧ m = L.length - i ∧ i ≤ L.length ∧ ts.get 0 = some s ∧ ts.get 5 = some s ∧ ts.get 6 = some (.int .i64 L.length) ∧ ts.get 7 = some (.int .i64 i) ∧ ∀ j, j < i → incP L j = true) ?_ ⟨_, 0, rfl, rfl, rfl, by omega, ?_, ?_, ?_, ?_, fun j hj => absurd hj (Nat.not_lt_zero _)⟩
 ·rintro m fr hh ⟨ts, i, rfl, rfl, rfl, hi, t0, t5, t6, t7, hal⟩
  ((repeat refine WC.seq ?_); refine WC.run ?_)
  (try simp only [wk, wl, wx, reduceLT, reduceEqDiff, Nat.reduceBEq, reduceIte, t6, t7])
  (repeat refine WC.seq ?_)
  by_cases hlt : i < L.length
  ·refine WC.cond (b := true) (by (try simp only [wk, wl, wx, reduceLT, reduceEqDiff, Nat.reduceBEq, reduceIte]); (try simp); (try omega)) (WC.skip ?_)
   (try simp only [wk, wl, wx, reduceLT, reduceEqDiff, Nat.reduceBEq, reduceIte])
   obtain ⟨p, p1, p2⟩ := a.at ty30 rfl ty9 rfl rfl hlt
   have p2 := p2 hh fun _ _ _ _ _ => rfl
   have hg : L[i]? = some L[i] := List.getElem?_eq_getElem hlt
   (repeat refine WC.seq ?_)
   refine WC.block ?_
   ((repeat refine WC.seq ?_); refine WC.run ?_)
   (try simp only [wk, wl, wx, reduceLT, reduceEqDiff, Nat.reduceBEq, reduceIte, t5, t7, p1, p2])
   rcases Bool.eq_false_or_eq_true (nameE L[i] != 0) with q1 | q1
   ·((repeat refine WC.seq ?_); refine WC.run ?_)
    (try simp only [wk, wl, wx, reduceLT, reduceEqDiff, Nat.reduceBEq, reduceIte])
    refine named0_ok.mono fun v h2 ⟨e2, e2'⟩ => ?_
    subst e2 e2'
    (try simp only [wk, wl, wx, reduceLT, reduceEqDiff, Nat.reduceBEq, reduceIte, un, q1])
    (repeat refine WC.seq ?_)
    refine WC.cond (b := true) (by (try simp only [wk, wl, wx, reduceLT, reduceEqDiff, Nat.reduceBEq, reduceIte, q1]); (try simp); (try omega)) ?_
    ((repeat refine WC.seq ?_); refine WC.run ?_)
    (try simp only [wk, wl, wx, reduceLT, reduceEqDiff, Nat.reduceBEq, reduceIte])
    refine WC.ret ?_
    (try simp only [wk, wl, wx, reduceLT, reduceEqDiff, Nat.reduceBEq, reduceIte])
    refine ⟨?_, by trivial⟩
    have q1e : ¬ nameE L[i] = 0 := by simpa using q1
    rw [incB, allB_false hlt (by simp only [incP, hg]; rw [decide_eq_false q1e]; rfl), Bool.false_and]
   have q1e : nameE L[i] = 0 := by simpa using q1
   by_cases hz : i = 0
   ·subst hz
    ((repeat refine WC.seq ?_); refine WC.run ?_)
    (try simp only [wk, wl, wx, reduceLT, reduceEqDiff, Nat.reduceBEq, reduceIte])
    refine named0_ok.mono fun v h2 ⟨e2, e2'⟩ => ?_
    subst e2 e2'
    have hpos : decide ((0 : Int) < ((0 : Nat) : Int)) = false := rfl
    (try simp only [wk, wl, wx, reduceLT, reduceEqDiff, Nat.reduceBEq, reduceIte, un, q1, hpos])
    (repeat refine WC.seq ?_)
    refine WC.cond (b := false) (by (try simp only [wk, wl, wx, reduceLT, reduceEqDiff, Nat.reduceBEq, reduceIte, q1, hpos]); (try simp); (try omega)) (WC.skip ?_)
    (try simp only [wk, wl, wx, reduceLT, reduceEqDiff, Nat.reduceBEq, reduceIte])
    ((repeat refine WC.seq ?_); refine WC.run ?_)
    (try simp only [wk, wl, wx, reduceLT, reduceEqDiff, Nat.reduceBEq, reduceIte, t7, bin_add])
    refine ⟨_, ?_, _, 1, rfl, by trivial, rfl, by omega, ?_⟩
    ·omega
    (try simp only [wk, wl, wx, reduceLT, reduceEqDiff, Nat.reduceBEq, reduceIte, t0, t5, t6])
    refine ⟨trivial, trivial, trivial, ?_, below_succ hal (by simp only [incP, hg]; rw [decide_eq_true q1e]; rfl)⟩
    rfl
   ·have hlt' : i - 1 < L.length := by omega
    obtain ⟨p', p1', p2'⟩ := a.at ty30 rfl ty9 rfl rfl hlt'
    have p2' := p2' hh fun _ _ _ _ _ => rfl
    have hg' : L[i - 1]? = some L[i - 1] := List.getElem?_eq_getElem hlt'
    have ew : IntKind.i64.wrap ((i : Int) - 1) = ((i - 1 : Nat) : Int) := by rw [wrap64 (by omega) (by omega)]; omega
    ((repeat refine WC.seq ?_); refine WC.run ?_)
    (try simp only [wk, wl, wx, reduceLT, reduceEqDiff, Nat.reduceBEq, reduceIte])
    refine named0_ok.mono fun v h2 ⟨e2, e2'⟩ => ?_
    subst e2 e2'
    have hpos : decide ((0 : Int) < (i : Int)) = true := decide_eq_true (by omega)
    (try simp only [wk, wl, wx, reduceLT, reduceEqDiff, Nat.reduceBEq, reduceIte, un, q1, hpos, bin_sub, ew, t0, p1', p2', bin_sleq])
    (repeat refine WC.seq ?_)
    cases hl : leS L[i] L[i - 1] with
    | true =>
     refine WC.cond (b := true) (by (try simp only [wk, wl, wx, reduceLT, reduceEqDiff, Nat.reduceBEq, reduceIte, q1, hl]); (try simp); (try omega)) ?_
     ((repeat refine WC.seq ?_); refine WC.run ?_)
     (try simp only [wk, wl, wx, reduceLT, reduceEqDiff, Nat.reduceBEq, reduceIte])
     refine WC.ret ?_
     (try simp only [wk, wl, wx, reduceLT, reduceEqDiff, Nat.reduceBEq, reduceIte])
     refine ⟨?_, by trivial⟩
     rw [incB, allB_false hlt (by simp only [incP, hg, hg']; simp [q1e, hz, hl]), Bool.false_and]
    | false =>
     refine WC.cond (b := false) (by (try simp only [wk, wl, wx, reduceLT, reduceEqDiff, Nat.reduceBEq, reduceIte, q1, hl]); (try simp); (try omega)) (WC.skip ?_)
     (try simp only [wk, wl, wx, reduceLT, reduceEqDiff, Nat.reduceBEq, reduceIte])
     ((repeat refine WC.seq ?_); refine WC.run ?_)
     (try simp only [wk, wl, wx, reduceLT, reduceEqDiff, Nat.reduceBEq, reduceIte, t7, bin_add])
     refine ⟨_, ?_, _, i + 1, rfl, by trivial, rfl, by omega, ?_⟩
     ·omega
     (try simp only [wk, wl, wx, reduceLT, reduceEqDiff, Nat.reduceBEq, reduceIte, t0, t5, t6])
     refine ⟨trivial, trivial, trivial, ?_, below_succ hal (by simp only [incP, hg, hg']; simp [q1e, hl])⟩
     rw [wrap64 (by omega) (by omega)]; rfl
  ·refine WC.cond (b := false) (by (try simp only [wk, wl, wx, reduceLT, reduceEqDiff, Nat.reduceBEq, reduceIte]); (try simp); (try omega)) (WC.exit ?_)
   have : i = L.length := by omega
   subst this
   (try simp only [wk, wl, wx, reduceLT, reduceEqDiff, Nat.reduceBEq, reduceIte])
   ((repeat refine WC.seq ?_); refine WC.run ?_)
   (try simp only [wk, wl, wx, reduceLT, reduceEqDiff, Nat.reduceBEq, reduceIte, t0, Sl.lenB a ty30 rfl])
   refine WC.ret ?_
   (try simp only [wk, wl, wx, reduceLT, reduceEqDiff, Nat.reduceBEq, reduceIte])
   refine ⟨?_, by trivial⟩
   rw [incB, allB_true hal, Bool.true_and]
 all_goals (try simp only [wk, wl, wx, reduceLT, reduceEqDiff, Nat.reduceBEq, reduceIte])
 all_goals (first | trivial | rfl | simp)
end Go.Proofs.OP
