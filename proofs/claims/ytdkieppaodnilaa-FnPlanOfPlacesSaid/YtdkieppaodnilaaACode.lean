/- The functions of this seat, compiled for the abstract semantics. Printed by a program of the prover's. -/
import Derived.Test.YtdkieppaodnilaaACodeA
namespace Go.Proofs.Ytdkieppaodnilaa
open Go Go.Abs
noncomputable section

def tbl : List (Nat × Go.Abs.Fn) := [(n_l_FnPlanOfPlaces, .text f_l_FnPlanOfPlaces), (n_i_PlacesOf, .text f_i_PlacesOf), (n_s_DrawPlanOfPlaces, .text f_s_DrawPlanOfPlaces), (n_i_PlanOfPlaces, .text f_i_PlanOfPlaces), (n_s_PlanOfPlaces, .text f_s_PlanOfPlaces), (n_l_equalPlan, .text f_l_equalPlan), (n_i_PrunePlan, .text f_i_PrunePlan), (n_i_ValidPlan, .text f_i_ValidPlan), (n_s_newReader, .text f_s_newReader), (n_s_reader_pick, .text f_s_reader_pick), (n_i_partsOf, .text f_i_partsOf), (n_i_splitBox, .text f_i_splitBox), (n_s_placeIn, .text f_s_placeIn), (n_i_PlanSize, .text f_i_PlanSize), (n_s_reader_one, .text f_s_reader_one), (n_s_DrawValidPlaces, .text f_s_DrawValidPlaces), (n_s_somePlaces, .text f_s_somePlaces), (n_i_ValidPlaces, .text f_i_ValidPlaces), (n_i_planPlaces, .text f_i_planPlaces), (n_i_sheetOf, .text f_i_sheetOf), (n_s_validPlaces, .text f_s_validPlaces), (n_s_planFor, .text f_s_planFor), (n_i_pruned, .text f_i_pruned), (n_i_ValidWork, .text f_i_ValidWork), (n_i_planFits, .text f_i_planFits), (n_s_validWork, .text f_s_validWork), (n_s_workPlan, .text f_s_workPlan), (n_i_addParts, .text f_i_addParts), (n_s_fitsPlan, .text f_s_fitsPlan), (n_i_countParts, .text f_i_countParts), (n_i_isCut, .text f_i_isCut), (n_s_placesOf, .text f_s_placesOf), (n_i_ValidBox, .text f_i_ValidBox), (n_i_InsideOf, .text f_i_InsideOf), (n_i_paneFills, .text f_i_paneFills), (n_i_ApartBoxes, .text f_i_ApartBoxes), (n_i_cutPlaces, .text f_i_cutPlaces), (n_s_validBox, .text f_s_validBox), (n_s_insideOf, .text f_s_insideOf), (n_s_apart, .text f_s_apart), (n_s_edges, .text f_s_edges), (n_s_part, .text f_s_part), (n_s_bothSides, .text f_s_bothSides), (n_i_ValidPane, .text f_i_ValidPane), (n_s_inRange, .text f_s_inRange), (n_s_validPanes, .text f_s_validPanes), (n_s_grow, .text f_s_grow), (n_s_spread, .text f_s_spread), (n_i_MeetOf, .text f_i_MeetOf), (n_i_validBoxes, .text f_i_validBoxes), (n_i_firstCut, .text f_i_firstCut), (n_s_meetOf, .text f_s_meetOf), (n_s_validPane, .text f_s_validPane), (n_i_spanOf, .text f_i_spanOf), (n_i_leastCut, .text f_i_leastCut)]
def Xs : Fns := fun f => lkp tbl f
def Ms : Modes := fun f i => (f == n_i_addParts && i == 0)
theorem x_l_FnPlanOfPlaces : Xs n_l_FnPlanOfPlaces = some (.text f_l_FnPlanOfPlaces) := rfl
@[go_sem] theorem m_l_FnPlanOfPlaces (i : Nat) : Ms n_l_FnPlanOfPlaces i = false := rfl
theorem x_i_PlacesOf : Xs n_i_PlacesOf = some (.text f_i_PlacesOf) := rfl
@[go_sem] theorem m_i_PlacesOf (i : Nat) : Ms n_i_PlacesOf i = false := rfl
theorem x_s_DrawPlanOfPlaces : Xs n_s_DrawPlanOfPlaces = some (.text f_s_DrawPlanOfPlaces) := rfl
@[go_sem] theorem m_s_DrawPlanOfPlaces (i : Nat) : Ms n_s_DrawPlanOfPlaces i = false := rfl
theorem x_i_PlanOfPlaces : Xs n_i_PlanOfPlaces = some (.text f_i_PlanOfPlaces) := rfl
@[go_sem] theorem m_i_PlanOfPlaces (i : Nat) : Ms n_i_PlanOfPlaces i = false := rfl
theorem x_s_PlanOfPlaces : Xs n_s_PlanOfPlaces = some (.text f_s_PlanOfPlaces) := rfl
@[go_sem] theorem m_s_PlanOfPlaces (i : Nat) : Ms n_s_PlanOfPlaces i = false := rfl
theorem x_l_equalPlan : Xs n_l_equalPlan = some (.text f_l_equalPlan) := rfl
@[go_sem] theorem m_l_equalPlan (i : Nat) : Ms n_l_equalPlan i = false := rfl
theorem x_i_PrunePlan : Xs n_i_PrunePlan = some (.text f_i_PrunePlan) := rfl
@[go_sem] theorem m_i_PrunePlan (i : Nat) : Ms n_i_PrunePlan i = false := rfl
theorem x_i_ValidPlan : Xs n_i_ValidPlan = some (.text f_i_ValidPlan) := rfl
@[go_sem] theorem m_i_ValidPlan (i : Nat) : Ms n_i_ValidPlan i = false := rfl
theorem x_s_newReader : Xs n_s_newReader = some (.text f_s_newReader) := rfl
@[go_sem] theorem m_s_newReader (i : Nat) : Ms n_s_newReader i = false := rfl
theorem x_s_reader_pick : Xs n_s_reader_pick = some (.text f_s_reader_pick) := rfl
@[go_sem] theorem m_s_reader_pick (i : Nat) : Ms n_s_reader_pick i = false := rfl
theorem x_i_partsOf : Xs n_i_partsOf = some (.text f_i_partsOf) := rfl
@[go_sem] theorem m_i_partsOf (i : Nat) : Ms n_i_partsOf i = false := rfl
theorem x_i_splitBox : Xs n_i_splitBox = some (.text f_i_splitBox) := rfl
@[go_sem] theorem m_i_splitBox (i : Nat) : Ms n_i_splitBox i = false := rfl
theorem x_s_placeIn : Xs n_s_placeIn = some (.text f_s_placeIn) := rfl
@[go_sem] theorem m_s_placeIn (i : Nat) : Ms n_s_placeIn i = false := rfl
theorem x_i_PlanSize : Xs n_i_PlanSize = some (.text f_i_PlanSize) := rfl
@[go_sem] theorem m_i_PlanSize (i : Nat) : Ms n_i_PlanSize i = false := rfl
theorem x_s_reader_one : Xs n_s_reader_one = some (.text f_s_reader_one) := rfl
@[go_sem] theorem m_s_reader_one (i : Nat) : Ms n_s_reader_one i = false := rfl
theorem x_s_DrawValidPlaces : Xs n_s_DrawValidPlaces = some (.text f_s_DrawValidPlaces) := rfl
@[go_sem] theorem m_s_DrawValidPlaces (i : Nat) : Ms n_s_DrawValidPlaces i = false := rfl
theorem x_s_somePlaces : Xs n_s_somePlaces = some (.text f_s_somePlaces) := rfl
@[go_sem] theorem m_s_somePlaces (i : Nat) : Ms n_s_somePlaces i = false := rfl
theorem x_i_ValidPlaces : Xs n_i_ValidPlaces = some (.text f_i_ValidPlaces) := rfl
@[go_sem] theorem m_i_ValidPlaces (i : Nat) : Ms n_i_ValidPlaces i = false := rfl
theorem x_i_planPlaces : Xs n_i_planPlaces = some (.text f_i_planPlaces) := rfl
@[go_sem] theorem m_i_planPlaces (i : Nat) : Ms n_i_planPlaces i = false := rfl
theorem x_i_sheetOf : Xs n_i_sheetOf = some (.text f_i_sheetOf) := rfl
@[go_sem] theorem m_i_sheetOf (i : Nat) : Ms n_i_sheetOf i = false := rfl
theorem x_s_validPlaces : Xs n_s_validPlaces = some (.text f_s_validPlaces) := rfl
@[go_sem] theorem m_s_validPlaces (i : Nat) : Ms n_s_validPlaces i = false := rfl
theorem x_s_planFor : Xs n_s_planFor = some (.text f_s_planFor) := rfl
@[go_sem] theorem m_s_planFor (i : Nat) : Ms n_s_planFor i = false := rfl
theorem x_i_pruned : Xs n_i_pruned = some (.text f_i_pruned) := rfl
@[go_sem] theorem m_i_pruned (i : Nat) : Ms n_i_pruned i = false := rfl
theorem x_i_ValidWork : Xs n_i_ValidWork = some (.text f_i_ValidWork) := rfl
@[go_sem] theorem m_i_ValidWork (i : Nat) : Ms n_i_ValidWork i = false := rfl
theorem x_i_planFits : Xs n_i_planFits = some (.text f_i_planFits) := rfl
@[go_sem] theorem m_i_planFits (i : Nat) : Ms n_i_planFits i = false := rfl
theorem x_s_validWork : Xs n_s_validWork = some (.text f_s_validWork) := rfl
@[go_sem] theorem m_s_validWork (i : Nat) : Ms n_s_validWork i = false := rfl
theorem x_s_workPlan : Xs n_s_workPlan = some (.text f_s_workPlan) := rfl
@[go_sem] theorem m_s_workPlan (i : Nat) : Ms n_s_workPlan i = false := rfl
theorem x_i_addParts : Xs n_i_addParts = some (.text f_i_addParts) := rfl
@[go_sem] theorem m0_i_addParts : Ms n_i_addParts 0 = true := rfl
@[go_sem] theorem m1_i_addParts : Ms n_i_addParts 1 = false := rfl
@[go_sem] theorem m2_i_addParts : Ms n_i_addParts 2 = false := rfl
@[go_sem] theorem m3_i_addParts : Ms n_i_addParts 3 = false := rfl
@[go_sem] theorem m4_i_addParts : Ms n_i_addParts 4 = false := rfl
@[go_sem] theorem m5_i_addParts : Ms n_i_addParts 5 = false := rfl
theorem x_s_fitsPlan : Xs n_s_fitsPlan = some (.text f_s_fitsPlan) := rfl
@[go_sem] theorem m_s_fitsPlan (i : Nat) : Ms n_s_fitsPlan i = false := rfl
theorem x_i_countParts : Xs n_i_countParts = some (.text f_i_countParts) := rfl
@[go_sem] theorem m_i_countParts (i : Nat) : Ms n_i_countParts i = false := rfl
theorem x_i_isCut : Xs n_i_isCut = some (.text f_i_isCut) := rfl
@[go_sem] theorem m_i_isCut (i : Nat) : Ms n_i_isCut i = false := rfl
theorem x_s_placesOf : Xs n_s_placesOf = some (.text f_s_placesOf) := rfl
@[go_sem] theorem m_s_placesOf (i : Nat) : Ms n_s_placesOf i = false := rfl
theorem x_i_ValidBox : Xs n_i_ValidBox = some (.text f_i_ValidBox) := rfl
@[go_sem] theorem m_i_ValidBox (i : Nat) : Ms n_i_ValidBox i = false := rfl
theorem x_i_InsideOf : Xs n_i_InsideOf = some (.text f_i_InsideOf) := rfl
@[go_sem] theorem m_i_InsideOf (i : Nat) : Ms n_i_InsideOf i = false := rfl
theorem x_i_paneFills : Xs n_i_paneFills = some (.text f_i_paneFills) := rfl
@[go_sem] theorem m_i_paneFills (i : Nat) : Ms n_i_paneFills i = false := rfl
theorem x_i_ApartBoxes : Xs n_i_ApartBoxes = some (.text f_i_ApartBoxes) := rfl
@[go_sem] theorem m_i_ApartBoxes (i : Nat) : Ms n_i_ApartBoxes i = false := rfl
theorem x_i_cutPlaces : Xs n_i_cutPlaces = some (.text f_i_cutPlaces) := rfl
@[go_sem] theorem m_i_cutPlaces (i : Nat) : Ms n_i_cutPlaces i = false := rfl
theorem x_s_validBox : Xs n_s_validBox = some (.text f_s_validBox) := rfl
@[go_sem] theorem m_s_validBox (i : Nat) : Ms n_s_validBox i = false := rfl
theorem x_s_insideOf : Xs n_s_insideOf = some (.text f_s_insideOf) := rfl
@[go_sem] theorem m_s_insideOf (i : Nat) : Ms n_s_insideOf i = false := rfl
theorem x_s_apart : Xs n_s_apart = some (.text f_s_apart) := rfl
@[go_sem] theorem m_s_apart (i : Nat) : Ms n_s_apart i = false := rfl
theorem x_s_edges : Xs n_s_edges = some (.text f_s_edges) := rfl
@[go_sem] theorem m_s_edges (i : Nat) : Ms n_s_edges i = false := rfl
theorem x_s_part : Xs n_s_part = some (.text f_s_part) := rfl
@[go_sem] theorem m_s_part (i : Nat) : Ms n_s_part i = false := rfl
theorem x_s_bothSides : Xs n_s_bothSides = some (.text f_s_bothSides) := rfl
@[go_sem] theorem m_s_bothSides (i : Nat) : Ms n_s_bothSides i = false := rfl
theorem x_i_ValidPane : Xs n_i_ValidPane = some (.text f_i_ValidPane) := rfl
@[go_sem] theorem m_i_ValidPane (i : Nat) : Ms n_i_ValidPane i = false := rfl
theorem x_s_inRange : Xs n_s_inRange = some (.text f_s_inRange) := rfl
@[go_sem] theorem m_s_inRange (i : Nat) : Ms n_s_inRange i = false := rfl
theorem x_s_validPanes : Xs n_s_validPanes = some (.text f_s_validPanes) := rfl
@[go_sem] theorem m_s_validPanes (i : Nat) : Ms n_s_validPanes i = false := rfl
theorem x_s_grow : Xs n_s_grow = some (.text f_s_grow) := rfl
@[go_sem] theorem m_s_grow (i : Nat) : Ms n_s_grow i = false := rfl
theorem x_s_spread : Xs n_s_spread = some (.text f_s_spread) := rfl
@[go_sem] theorem m_s_spread (i : Nat) : Ms n_s_spread i = false := rfl
theorem x_i_MeetOf : Xs n_i_MeetOf = some (.text f_i_MeetOf) := rfl
@[go_sem] theorem m_i_MeetOf (i : Nat) : Ms n_i_MeetOf i = false := rfl
theorem x_i_validBoxes : Xs n_i_validBoxes = some (.text f_i_validBoxes) := rfl
@[go_sem] theorem m_i_validBoxes (i : Nat) : Ms n_i_validBoxes i = false := rfl
theorem x_i_firstCut : Xs n_i_firstCut = some (.text f_i_firstCut) := rfl
@[go_sem] theorem m_i_firstCut (i : Nat) : Ms n_i_firstCut i = false := rfl
theorem x_s_meetOf : Xs n_s_meetOf = some (.text f_s_meetOf) := rfl
@[go_sem] theorem m_s_meetOf (i : Nat) : Ms n_s_meetOf i = false := rfl
theorem x_s_validPane : Xs n_s_validPane = some (.text f_s_validPane) := rfl
@[go_sem] theorem m_s_validPane (i : Nat) : Ms n_s_validPane i = false := rfl
theorem x_i_spanOf : Xs n_i_spanOf = some (.text f_i_spanOf) := rfl
@[go_sem] theorem m_i_spanOf (i : Nat) : Ms n_i_spanOf i = false := rfl
theorem x_i_leastCut : Xs n_i_leastCut = some (.text f_i_leastCut) := rfl
@[go_sem] theorem m_i_leastCut (i : Nat) : Ms n_i_leastCut i = false := rfl
end
end Go.Proofs.Ytdkieppaodnilaa
