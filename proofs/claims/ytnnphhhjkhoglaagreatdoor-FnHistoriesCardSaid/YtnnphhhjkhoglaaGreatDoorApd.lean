/- Another name of one text, for the seats over generic cells. No program is named here. Conditions: none. -/
import Derived.Test.YtnnphhhjkhoglaaGreatDoorApc
